/- My contracts: BbW32 BbUl BbUj BbUq BbCol BbUk BbCrng BbCdrg BbCoct BbCbig BbPsha BbCsha0 BbCsha1 BbCsha2 BbCsha3 BbCsha4 BbCsha5 BbUe BbCsha6 BbCsha7 BbKnown22 BbLepo3 BbUe2 BbUe3. -/
import Derived.Test.YtfekancobbplaaaBbG3
import Derived.Shelf.SlIterI.Collect
import Derived.Test.YtfekancobbplaaaBbTab
import Derived.Test.YtfekancobbplaaaBbG4
/- Words: numbers of fixed width, as the walk meets them. -/
namespace Go.Bb
set_option linter.unusedSimpArgs false
set_option linter.unusedVariables false

abbrev U32 := BitVec 32
abbrev U64 := BitVec 64
def u8V (b : UInt8) : Value := .int .u8 b.toNat
def u64V (x : U64) : Value := .int .u64 x.toNat

theorem wrap_u32 (n : Int) : IntKind.u32.wrap n = ((BitVec.ofInt 32 n).toNat : Int) := by
  simp only [IntKind.wrap, IntKind.bits, IntKind.signed, BitVec.toNat_ofInt]
  simp
  omega
theorem wrap_u64 (n : Int) : IntKind.u64.wrap n = ((BitVec.ofInt 64 n).toNat : Int) := by
  simp only [IntKind.wrap, IntKind.bits, IntKind.signed, BitVec.toNat_ofInt]
  simp
  omega
theorem ofInt_nat (w n : Nat) : BitVec.ofInt w (n : Int) = BitVec.ofNat w n := by simp
theorem ofInt_toNat {w : Nat} (x : BitVec w) : BitVec.ofInt w (x.toNat : Int) = x := by rw [ofInt_nat]; simp

section
variable (x y : U32) (n : Nat)
theorem u32_add : IntKind.u32.wrap ((x.toNat : Int) + (y.toNat : Int)) = ((x + y).toNat : Int) := by
  rw [wrap_u32]; congr 1
theorem u32_xor : IntKind.u32.wrap ((BitVec.ofInt IntKind.u32.bits (x.toNat : Int) ^^^ BitVec.ofInt IntKind.u32.bits (y.toNat : Int)).toNat : Int) = ((x ^^^ y).toNat : Int) := by
  rw [show IntKind.u32.bits = 32 from rfl, ofInt_toNat, ofInt_toNat, wrap_u32, ofInt_toNat]
theorem u32_and : IntKind.u32.wrap ((BitVec.ofInt IntKind.u32.bits (x.toNat : Int) &&& BitVec.ofInt IntKind.u32.bits (y.toNat : Int)).toNat : Int) = ((x &&& y).toNat : Int) := by
  rw [show IntKind.u32.bits = 32 from rfl, ofInt_toNat, ofInt_toNat, wrap_u32, ofInt_toNat]
theorem u32_or : IntKind.u32.wrap ((BitVec.ofInt IntKind.u32.bits (x.toNat : Int) ||| BitVec.ofInt IntKind.u32.bits (y.toNat : Int)).toNat : Int) = ((x ||| y).toNat : Int) := by
  rw [show IntKind.u32.bits = 32 from rfl, ofInt_toNat, ofInt_toNat, wrap_u32, ofInt_toNat]
theorem u32_not : IntKind.u32.wrap ((BitVec.ofInt IntKind.u32.bits (if IntKind.u32.signed = true then -1 else IntKind.u32.max) ^^^ BitVec.ofInt IntKind.u32.bits (x.toNat : Int)).toNat : Int) = ((~~~x).toNat : Int) := by
  rw [show IntKind.u32.bits = 32 from rfl, show (if IntKind.u32.signed = true then -1 else IntKind.u32.max) = 4294967295 from by decide, ofInt_toNat, wrap_u32, ofInt_toNat, show BitVec.ofInt 32 4294967295 = BitVec.allOnes 32 from by decide, BitVec.allOnes_xor]
theorem u32_shl (h : n ≤ 32) : IntKind.u32.wrap ((x.toNat : Int) * 2 ^ (min n IntKind.u32.bits)) = ((x <<< n).toNat : Int) := by
  rw [show IntKind.u32.bits = 32 from rfl, Nat.min_eq_left h, wrap_u32]
  have : ((x.toNat : Int) * 2 ^ n) = ((x.toNat * 2 ^ n : Nat) : Int) := by simp
  rw [this, ofInt_nat]
  simp [BitVec.toNat_shiftLeft, Nat.shiftLeft_eq]
theorem u32_shr (h : n ≤ 32) : ((x.toNat : Int).fdiv (2 ^ (min n IntKind.u32.bits))) = ((x >>> n).toNat : Int) := by
  rw [show IntKind.u32.bits = 32 from rfl, Nat.min_eq_left h, Int.fdiv_eq_ediv_of_nonneg _ (Int.le_of_lt (Int.pow_pos (by omega)))]
  simp [BitVec.toNat_ushiftRight, Nat.shiftRight_eq_div_pow]
theorem u64_u32 (z : U64) : IntKind.u32.wrap (z.toNat : Int) = ((z.setWidth 32).toNat : Int) := by
  rw [wrap_u32, ofInt_nat]; simp
end
section
variable (x y : U64) (n : Nat)
theorem u64_and : IntKind.u64.wrap ((BitVec.ofInt IntKind.u64.bits (x.toNat : Int) &&& BitVec.ofInt IntKind.u64.bits (y.toNat : Int)).toNat : Int) = ((x &&& y).toNat : Int) := by
  rw [show IntKind.u64.bits = 64 from rfl, ofInt_toNat, ofInt_toNat, wrap_u64, ofInt_toNat]
theorem u64_or : IntKind.u64.wrap ((BitVec.ofInt IntKind.u64.bits (x.toNat : Int) ||| BitVec.ofInt IntKind.u64.bits (y.toNat : Int)).toNat : Int) = ((x ||| y).toNat : Int) := by
  rw [show IntKind.u64.bits = 64 from rfl, ofInt_toNat, ofInt_toNat, wrap_u64, ofInt_toNat]
theorem u64_shl (h : n ≤ 64) : IntKind.u64.wrap ((x.toNat : Int) * 2 ^ (min n IntKind.u64.bits)) = ((x <<< n).toNat : Int) := by
  rw [show IntKind.u64.bits = 64 from rfl, Nat.min_eq_left h, wrap_u64]
  have : ((x.toNat : Int) * 2 ^ n) = ((x.toNat * 2 ^ n : Nat) : Int) := by simp
  rw [this, ofInt_nat]
  simp [BitVec.toNat_shiftLeft, Nat.shiftLeft_eq]
theorem u8_u64 (b : UInt8) : IntKind.u64.wrap (b.toNat : Int) = ((BitVec.ofNat 64 b.toNat).toNat : Int) := by
  rw [wrap_u64, ofInt_nat]
end
end Go.Bb
/- Slices of bytes. -/
namespace Go.Bb
set_option linter.unusedSimpArgs false
set_option linter.unusedVariables false

abbrev SlB (h : Heap) (v : Value) (l : List UInt8) : Prop := Sl h 1 v l.length (l.map u8V)
abbrev OwB (h0 h : Heap) (v : Value) (l : List UInt8) : Prop := Ow h0 h 1 v l.length (l.map u8V)
theorem one_u8 (l : List UInt8) : (l.map u8V).all one = true := by simp [u8V, one]
theorem wrapI {n : Int} (h0 : -9223372036854775808 ≤ n) (h1 : n ≤ 9223372036854775807) : IntKind.i64.wrap n = n := by
  simp [IntKind.wrap, IntKind.bits, IntKind.signed]; omega
theorem wrapN {n : Nat} (h1 : n ≤ 9223372036854775806) : IntKind.i64.wrap ((n : Int) + 1) = ((n + 1 : Nat) : Int) := by rw [wrapI (by omega) (by omega)]; rfl

/-- A byte of a slice. -/
theorem Sl.byte_at {h : Heap} {v : Value} {l : List UInt8} (s : SlB h v l) (j : Nat) (hj : j < l.length) :
    ∃ b o c, v = .slice (some ⟨b, o, none⟩) l.length c ∧ l.length ≤ c ∧ ∀ H, h.le H → hcell H ⟨b, o + j, none⟩ = some (u8V l[j]) := by
  obtain ⟨b, o, c, hv, hc, hcl⟩ := s.ptr (by omega) (by omega)
  refine ⟨b, o, c, hv, hc, fun H hle => ?_⟩
  rw [Nat.mul_one] at hcl
  rw [hcell_of (hcells_le hle hcl) j hj]
  simp [hj]
end Go.Bb
/- The walk's laws: slice expressions, copies, texts of bytes. -/
namespace Go.Bb
set_option linter.unusedSimpArgs false
set_option linter.unusedVariables false

theorem bnds_both {n c : Nat} {k k' : IntKind} {y z : Int} (h0 : 0 ≤ y) (h1 : y ≤ z) (h2 : z ≤ c) : bnds n c (some (some (.int k y))) (some (some (.int k' z))) none = some (y.toNat, z.toNat, c) := by
  have hz : 0 ≤ z := by omega
  have : y ≤ (z.toNat : Int) := by omega
  have h3 : y ≤ max z 0 := by omega
  simp [bnds, bndV, h0, hz, h2, h1, h3]
theorem add_off' (b o n : Nat) : (⟨b, o, none⟩ : Addr).add n = ⟨b, o + n, none⟩ := by
  unfold Addr.add; split
  · rename_i h; subst h; rfl
  · rfl

/-- A part of a slice. -/
theorem Sl.pre {h : Heap} {size n c : Nat} {base : Option Addr} {cells : List Value} (s : Sl h size (.slice base n c) n cells) {k : Nat} (hk : k ≤ n) : Sl h size (.slice base k c) k (cells.take (k * size)) := by
  have hm : k * size ≤ n * size := Nat.mul_le_mul_right _ hk
  rcases s with ⟨e, rfl, rfl⟩ | ⟨a, c', e, h2, h3⟩
  · simp only [Value.slice.injEq] at e
    obtain ⟨rfl, _, rfl⟩ := e
    have : k = 0 := by omega
    subst this
    exact .inl ⟨rfl, rfl, by simp⟩
  · simp only [Value.slice.injEq] at e
    obtain ⟨rfl, _, rfl⟩ := e
    refine .inr ⟨a, c, rfl, by omega, ?_⟩
    by_cases hz : k * size = 0
    · rw [hz]; simp [hcells]
    · have := hcells_spot h3 (by omega)
      rw [this] at h3 ⊢
      have := hcells_sub h3 0 (k * size) (by omega)
      simpa using this
theorem Sl.post {h : Heap} {size n c : Nat} {base : Option Addr} {cells : List Value} (s : Sl h size (.slice base n c) n cells) {k : Nat} (hk : k ≤ n) :
    Sl h size (.slice (if c = k then base else base.map fun x => x.add (k * size)) (n - k) (c - k)) (n - k) (cells.drop (k * size)) := by
  have hm : k * size ≤ n * size := Nat.mul_le_mul_right _ hk
  rcases s with ⟨e, rfl, rfl⟩ | ⟨a, c', e, h2, h3⟩
  · simp only [Value.slice.injEq] at e
    obtain ⟨rfl, _, rfl⟩ := e
    have : k = 0 := by omega
    subst this
    exact .inl ⟨by simp, rfl, by simp⟩
  · simp only [Value.slice.injEq] at e
    obtain ⟨rfl, _, rfl⟩ := e
    have hl := hcells_length h3
    by_cases hck : c = k
    · have hnk : n - k = 0 := by omega
      refine .inr ⟨a, c - k, by simp [hck], by omega, ?_⟩
      rw [hnk, Nat.zero_mul]
      simp only [hcells, Option.some.injEq]
      rw [List.drop_eq_nil_of_le]
      have : n = k := by omega
      subst this; omega
    · refine .inr ⟨a.add (k * size), c - k, by simp [hck], by omega, ?_⟩
      by_cases hz : (n - k) * size = 0
      · rw [hz]
        simp only [hcells, Option.some.injEq]
        rw [List.drop_eq_nil_of_le]
        rw [Nat.sub_mul] at hz; omega
      · rw [Nat.sub_mul] at hz ⊢
        have := hcells_spot h3 (by omega)
        rw [this] at h3
        rw [this, add_off']
        have := hcells_sub h3 (k * size) (n * size - k * size) (by omega)
        rw [this]
        congr 1
        rw [List.take_of_length_le]
        simp [hl]

/-! ### copies -/
/-! ### texts -/
end Go.Bb
/- Slices of bytes, rows of bytes, slices of slices: what all contracts share. -/
namespace Go.Bb
set_option linter.unusedSimpArgs false
set_option linter.unusedVariables false

/-- A part of a slice, from a place to a place. -/
theorem Sl.midB {h : Heap} {base : Option Addr} {c a b : Nat} {l : List UInt8} (s : SlB h (.slice base l.length c) l) (hab : a ≤ b) (hb : b ≤ l.length) : SlB h (.slice (if c = a then base else base.map fun x => x.add a) (b - a) (c - a)) ((l.drop a).take (b - a)) := by
  have s1 := Sl.post s (k := a) (by omega)
  simp only [Nat.mul_one] at s1
  have s2 := Sl.pre s1 (k := b - a) (by omega)
  rw [Nat.mul_one, ← List.map_drop, ← List.map_take] at s2
  have e : ((l.drop a).take (b - a)).length = b - a := by simp; omega
  unfold SlB
  rw [e]; exact s2
theorem Ow.off {h0 h : Heap} {bs : Nat} {X : Blk} {size n : Nat} {v : Value} {cells : List Value} (s : Ow (h0.set bs X) h size v n cells) (X' : Blk) : Ow (h0.set bs X') h size v n cells := by
  rcases s with s | ⟨b, o, c, sz, st, pre, rest, h1, h2, h3, h4⟩
  · exact .inl s
  · obtain ⟨g1, g2⟩ := Heap.set_none.1 h3
    exact .inr ⟨b, o, c, sz, st, pre, rest, h1, h2, Heap.set_none.2 ⟨g1, g2⟩, h4⟩
theorem Ow.put {h0 h : Heap} {bs : Nat} {X : Blk} {size n : Nat} {v : Value} {cells : List Value} (s : Ow (h0.set bs X) h size v n cells) (Y : Blk) : Ow (h0.set bs X) (h.set bs Y) size v n cells := by
  rcases s with s | ⟨b, o, c, sz, st, pre, rest, h1, h2, h3, h4, h5⟩
  · exact .inl s
  · obtain ⟨g1, g2⟩ := Heap.set_none.1 h3
    exact .inr ⟨b, o, c, sz, st, pre, rest, h1, h2, h3, by rw [Heap.set_ne g1]; exact h4, h5⟩
theorem Ow.post {h0 h : Heap} {size b o n c : Nat} {cells : List Value} (s : Ow h0 h size (.slice (some ⟨b, o, none⟩) n c) n cells) {k : Nat} (hk : k ≤ n) :
    Ow h0 h size (.slice (if c = k then some ⟨b, o, none⟩ else some (Addr.add ⟨b, o, none⟩ (k * size))) (n - k) (c - k)) (n - k) (cells.drop (k * size)) := by
  by_cases hck : c = k
  · rw [if_pos hck]
    rcases s with ⟨e, _, _⟩ | ⟨b', o', c', sz, st, pre, rest, h1, h2, h3, h4, h5, h6, h7⟩
    · cases e
    · simp only [Value.slice.injEq, Option.some.injEq, Addr.mk.injEq, and_true, true_and] at h1
      obtain ⟨⟨rfl, rfl⟩, rfl⟩ := h1
      have hnk : n = k := by omega
      subst hnk
      refine .inr ⟨b, o, c - n, sz, st, pre, cells ++ rest, rfl, by omega, h3, ?_, h5, ?_, ?_⟩
      · rw [List.drop_eq_nil_of_le (by omega), List.append_nil, ← List.append_assoc]; exact h4
      · rw [List.drop_eq_nil_of_le (by omega)]; simp
      · have : (c - n) * size ≤ c * size := Nat.mul_le_mul_right _ (by omega)
        omega
  · rw [if_neg hck, add_off']
    exact Ow.drop s hk
/-- A slice of slices of bytes. -/
def SlL (h : Heap) (v : Value) (L : List (List UInt8)) : Prop := ∃ vs : List Value, vs.length = L.length ∧ Sl h 1 v L.length vs ∧ ∀ i (h1 : i < vs.length) (h2 : i < L.length), SlB h vs[i] L[i]
theorem SlL.le {h h' : Heap} {v : Value} {L : List (List UInt8)} (x : h.le h') (s : SlL h v L) : SlL h' v L := by
  obtain ⟨vs, h1, h2, h3⟩ := s
  exact ⟨vs, h1, h2.le x, fun i a b => (h3 i a b).le x⟩
theorem SlL.one {h : Heap} {v : Value} {L : List (List UInt8)} (s : SlL h v L) : ∃ vs : List Value, vs.length = L.length ∧ Sl h 1 v L.length vs ∧ vs.all one = true ∧ ∀ i (h1 : i < vs.length) (h2 : i < L.length), SlB h vs[i] L[i] := by
  obtain ⟨vs, h1, h2, h3⟩ := s
  refine ⟨vs, h1, h2, ?_, h3⟩
  rw [List.all_eq_true]
  intro u hu
  obtain ⟨i, hi, rfl⟩ := List.getElem_of_mem hu
  obtain ⟨base, c, e⟩ := Sl.shape (h3 i hi (by omega))
  rw [e]; rfl
theorem SlL.cons {h : Heap} {v w : Value} {l : List UInt8} {L : List (List UInt8)} {vs : List Value} (h1 : vs.length = L.length) (h3 : ∀ i (h1 : i < vs.length) (h2 : i < L.length), SlB h vs[i] L[i]) (sw : SlB h w l) (s : Sl h 1 v (L.length + 1) (w :: vs)) : SlL h v (l :: L) := by
  refine ⟨w :: vs, by simp [h1], s, ?_⟩
  intro i a b
  cases i with
  | zero => exact sw
  | succ i => exact h3 i (by simpa using a) (by simpa using b)
end Go.Bb
/- slices.AppendSeq(nil, maps.Keys(m)), the library's proved summaries told in my heap. -/
namespace Go.Bb
set_option linter.unusedSimpArgs false
set_option linter.unusedVariables false
open Go.Proofs Go.Maps Go.MapKept Go.WideElems

/-- How a value reads: whatever it is. -/
def anyR : Value → Option (DataW Unit × List MemPlace) := fun _ => some (.lit (.bool true), [])
theorem key_i64 {P : Program} {k : TypeId} (hk : P.underlying k = some (.int .i64)) {z : Int} (hw : (Lit.int .i64 z).wf = true) : keyOf P k (.int .i64 z) = some (.int .i64 z) := by
  simp [keyOf, hk, mapKey, hw]
theorem collect_calls (E : Env) {ρ : Go.Shelf.Ren} (L10 : SlLaysZI.n10 E.P ρ) (L11 : SlLaysZI.n11 E.P ρ) (e10 : ∀ args w, (callFunc (ρ.f 10) args).run E.P w = .ok (.enter (ρ.f 10) args) w) {H : Heap} {bx m : Nat} {es : Array MapEntry} {clk : Nat} (qb : H bx = some (.own 0 [.map (some m)] 1)) (qm : H m = some (.obj (.map es clk)))
    (st : Stamped es clk) (hk : ∀ x ∈ es.toList, ∃ z : Int, x.key = .int .i64 z ∧ (Lit.int .i64 z).wf = true) (hsz : es.size ≤ 100000) {Q : Value → Heap → Prop}
    (hQ : ∀ v h' (ss : List Int), ss.length ≤ es.size → H.le h' → Ow H h' 1 v ss.length (ss.map (.int .i64)) → (∀ z, z ∈ ss ↔ ∃ x ∈ es.toList, x.key = .int .i64 z) → Q v h') :
    ACalls E (ρ.f 11) [.slice none 0 0, .func (.func (ρ.f 10)) #[] #[.pointer (some ⟨bx, 0, none⟩)]] H Q := by
  intro w s
  have hcell0 : hcell H ⟨bx, 0, none⟩ = some (.map (some m)) := by rw [hcell_at qb (by simp)]; rfl
  have hm := cell_of_hcell s hcell0
  have hb : bx < w.heap.size := s.lt qb
  have hmap : w.heap[m]? = some (.map es clk) := (s m _ qm).1
  have u26 := L10.t26
  have hfit : Fit E.P (ρ.t 26) anyR es clk := ⟨by unfold maxLen; omega, st, fun x hx => by
    obtain ⟨z, hz, hw⟩ := hk x hx
    exact ⟨(.int .i64 z, .lit (.bool true)), by
      have := rd_mk (P := E.P) (k := ρ.t 26) (R := anyR) (key := x.key) (val := x.val) (born := x.born) (kl := .int .i64 z) (yv := (.lit (.bool true), [])) (by rw [hz]; exact key_i64 u26 hw) rfl
      exact this⟩⟩
  have hown : w.ownsMap E.P (ρ.t 26) anyR m es.size (.map ((es.toList.map (rg E.P (ρ.t 26) anyR)).foldr DataW.insert [])) := ⟨es, clk, hmap, hfit, Nat.le_refl _, rfl⟩
  have hN : Maps.size (.map ((es.toList.map (rg E.P (ρ.t 26) anyR)).foldr DataW.insert []) : DataW Unit) = es.size := by simp [Maps.size, length_sorted]
  have hseq := AnyZI.keys_gives L10 Fence.wide 1 trivial rfl (Nat.le_refl _) bx m es.size _ w hb hm hown
  have hcol := AnyZI.appendSeq_in L11 Fence.wide 2 trivial rfl (Nat.le_refl _) (ρ.f 10) #[.pointer (some ⟨bx, 0, none⟩)] trivial e10 _ _ (by rw [hN]; unfold maxLen; omega) (by rw [hN]; omega) w hseq
  refine (callsIn_wide.1 hcol).mono ?_
  rintro e w' ⟨v, ss, rfl, hp, hrow, -, hbel⟩
  have hmem : ∀ z, z ∈ ss ↔ ∃ x ∈ es.toList, x.key = .int .i64 z := by
    intro z
    rw [hp.mem_iff]
    unfold intKeys
    simp only [List.mem_map]
    constructor
    · rintro ⟨p, hpm, rfl⟩
      rw [mem_sorted] at hpm
      obtain ⟨x, hx, rfl⟩ := List.mem_map.1 hpm
      obtain ⟨z, hz, hw⟩ := hk x hx
      refine ⟨x, hx, ?_⟩
      have := rg_of (P := E.P) (k := ρ.t 26) (R := anyR) (rd_mk (key := x.key) (val := x.val) (born := x.born) (kl := .int .i64 z) (yv := (.lit (.bool true), [])) (by rw [hz]; exact key_i64 u26 hw) rfl)
      have e1 : (rg E.P (ρ.t 26) anyR x) = (.int .i64 z, .lit (.bool true)) := this
      rw [e1, hz]; rfl
    · rintro ⟨x, hx, hz⟩
      obtain ⟨z', hz', hw⟩ := hk x hx
      rw [hz] at hz'
      cases hz'
      refine ⟨(.int .i64 z, .lit (.bool true)), ?_, rfl⟩
      rw [mem_sorted]
      refine List.mem_map.2 ⟨x, hx, ?_⟩
      exact rg_of (P := E.P) (k := ρ.t 26) (R := anyR) (rd_mk (key := x.key) (val := x.val) (born := x.born) (kl := .int .i64 z) (yv := (.lit (.bool true), [])) (by rw [hz]; exact key_i64 u26 hw) rfl)
  have hlen2 : ss.length ≤ es.size := by
    rw [hp.length_eq]
    simp [intKeys, length_sorted]
  have sat0 : Sat H w' := fun b x q => by
    rw [hbel.block b (s.lt q)]; exact s b x q
  obtain ⟨hlen, hrow⟩ := hrow
  rcases hrow with ⟨rfl, h0⟩ | ⟨g, cap, cur, rfl, hg, hgb, hr1, hr2, hr3, hr4⟩
  · have hs : ss = [] := List.eq_nil_of_length_eq_zero h0
    subst hs
    exact ⟨_, H, rfl, sat0, ⟨hbel.os, hbel.tape, hbel.output, hbel.size, fun b hb _ => hbel.block b hb, fun _ a b => absurd a b, fun _ _ h => h⟩, hQ _ _ [] (by simp) (Heap.le_refl _) (Ow.nil _ _ _) hmem⟩
  · have hgn : H g = none := s.none_of_ge hg
    refine ⟨_, H.set g (.own 0 cur.toList cap), rfl, ?_, ?_, hQ _ _ ss hlen2 (Heap.le_set (Heap.le_refl _) hgn _) ?_ hmem⟩
    · intro b x q
      by_cases e : b = g
      · subst e
        rw [Heap.set_self] at q
        cases q
        exact ⟨cur, ρ.t 26, (0, 0), hgb, by omega, by simp; omega, fun i v hv => by simpa using hv, .inl rfl⟩
      · rw [Heap.set_ne e] at q
        exact sat0 b x q
    · refine ⟨hbel.os, hbel.tape, hbel.output, hbel.size, fun b hb _ => hbel.block b hb, fun b a c => ?_, fun b o h => ?_⟩
      · by_cases e : b = g
        · subst e; exact hg
        · rw [Heap.set_ne e] at c; exact absurd a c
      · have e : b ≠ g := by intro e; subst e; rw [hgn] at h; cases h
        rw [Heap.set_ne e]; exact h
    · refine .inr ⟨g, 0, cap, cap, 0, [], cur.toList.drop ss.length, rfl, hr1, hgn, ?_, rfl, by simp, by omega⟩
      rw [Heap.set_self]
      rw [Nat.mul_one] at hr4
      have : [] ++ ss.map (Value.int .i64) ++ cur.toList.drop ss.length = cur.toList := by
        have : ss.map (Value.int .i64) = ss.map encZ := rfl
        rw [List.nil_append, this, ← hr4, List.take_append_drop]
      rw [this]
end Go.Bb
/- Arguments: bytes and words. -/
namespace Go.Bb
set_option linter.unusedSimpArgs false
set_option linter.unusedVariables false

end Go.Bb
namespace Go.Bb
end Go.Bb
/- Contracts: rings of keys (with what is needed to walk their maps). -/
namespace Go.Bb
set_option linter.unusedSimpArgs false
set_option linter.unusedVariables false
set_option maxRecDepth 20000
set_option maxHeartbeats 2000000
open Go.MapKept

theorem leaves_u8 : ∀ l : List UInt8, leavesOk (List.replicate l.length (some IntKind.u8)) (l.map u8V) = true
  | [] => rfl
  | b :: l => by
      have := leaves_u8 l
      rw [List.length_cons, List.replicate_succ, List.map_cons, leavesOk, this, Bool.and_true]
      rfl
theorem leavesEq_u8 : ∀ l : List UInt8, leavesEq (l.map u8V) (l.map u8V) = true
  | [] => rfl
  | b :: l => by
      have := leavesEq_u8 l
      rw [List.map_cons, leavesEq, this, Bool.and_true]
      simp [u8V, leafEq]

theorem leavesEq_dec : ∀ l m : List UInt8, l.length = m.length → leavesEq (l.map u8V) (m.map u8V) = decide (l = m)
  | [], [], _ => rfl
  | [], _ :: _, h => by simp at h
  | _ :: _, [], h => by simp at h
  | a :: l, b :: m, h => by
      have := leavesEq_dec l m (by simpa using h)
      simp only [List.map_cons, leavesEq, this, u8V, leafEq]
      by_cases e : a = b
      · subst e; simp
      · have : ¬ (a.toNat : Int) = b.toNat := fun q => e (UInt8.toNat_inj.1 (by omega))
        simp [this, e]
theorem epoch_good_c (E : EnvT tab) (h : Heap) (n : Int) : ACallN E.toEnv n_epoch_good [.int .i64 n] h fun r h' => h' = h ∧ r = .bool (decide (0 ≤ n ∧ n ≤ 1099511627776)) := by
  refine acall h_epoch_good ir_epoch_good rfl rfl (wpA_sound ?_)
  unfold ir_epoch_good
  by_cases g0 : 0 ≤ n
  · by_cases g1 : n ≤ 1099511627776
    · simp -implicitDefEqProofs only [zB1,zB2,zB3,zB4,zB5,zB6,zB7,zB8,zB9,zB10,zB11,y00,y01,y02,y03,y04,y05,y06,y07,y08,y09,y0a,y0b,y0c,y0d,y0e,y0f,y0g,y0h,y0i,y0j,y0k,y0l,y0m,y0n,y0o,y0p,y0q,y0r,y0s,y0t,y0u,y0v,y0w,y0x,y0y,y0z,y10,y11,y12,y13,y14,y15,y16,y17,y18,y19,y1a,y1b,y1c,y1d,y1e,y1f,y1g,y1h,y1i,y1j,y1k,y1l,y1m,y1n,y1o,y1p,y1q,y1r,retO,retL,retV,z6i,allV,allP,z6j,z6m,z6n,z6t,z6u,z6v,binV,eqV,unV,oOpt,reduceIte,reduceCtorEq,Nat.reduceEqDiff,Nat.reduceAdd,Nat.reduceMul,Nat.reduceLT,Nat.reduceSub,Int.reduceLT,Int.reduceLE,Int.reduceEq,Int.reduceNe,Int.reduceSub,Int.reduceAdd,Int.reduceMul,Int.reduceBEq,Int.reduceBNe,Int.reduceGT,Int.reduceGE,Nat.reduceGT,Int.reduceToNat,Int.reduceNeg,Nat.reduceLeDiff,Nat.reduceBEq,Nat.reduceBneDiff,Value.cells, g0, g1]
    · simp -implicitDefEqProofs only [zB1,zB2,zB3,zB4,zB5,zB6,zB7,zB8,zB9,zB10,zB11,y00,y01,y02,y03,y04,y05,y06,y07,y08,y09,y0a,y0b,y0c,y0d,y0e,y0f,y0g,y0h,y0i,y0j,y0k,y0l,y0m,y0n,y0o,y0p,y0q,y0r,y0s,y0t,y0u,y0v,y0w,y0x,y0y,y0z,y10,y11,y12,y13,y14,y15,y16,y17,y18,y19,y1a,y1b,y1c,y1d,y1e,y1f,y1g,y1h,y1i,y1j,y1k,y1l,y1m,y1n,y1o,y1p,y1q,y1r,retO,retL,retV,z6i,allV,allP,z6j,z6m,z6n,z6t,z6u,z6v,binV,eqV,unV,oOpt,reduceIte,reduceCtorEq,Nat.reduceEqDiff,Nat.reduceAdd,Nat.reduceMul,Nat.reduceLT,Nat.reduceSub,Int.reduceLT,Int.reduceLE,Int.reduceEq,Int.reduceNe,Int.reduceSub,Int.reduceAdd,Int.reduceMul,Int.reduceBEq,Int.reduceBNe,Int.reduceGT,Int.reduceGE,Nat.reduceGT,Int.reduceToNat,Int.reduceNeg,Nat.reduceLeDiff,Nat.reduceBEq,Nat.reduceBneDiff,Value.cells, g0, g1]
  · simp -implicitDefEqProofs only [zB1,zB2,zB3,zB4,zB5,zB6,zB7,zB8,zB9,zB10,zB11,y00,y01,y02,y03,y04,y05,y06,y07,y08,y09,y0a,y0b,y0c,y0d,y0e,y0f,y0g,y0h,y0i,y0j,y0k,y0l,y0m,y0n,y0o,y0p,y0q,y0r,y0s,y0t,y0u,y0v,y0w,y0x,y0y,y0z,y10,y11,y12,y13,y14,y15,y16,y17,y18,y19,y1a,y1b,y1c,y1d,y1e,y1f,y1g,y1h,y1i,y1j,y1k,y1l,y1m,y1n,y1o,y1p,y1q,y1r,retO,retL,retV,z6i,allV,allP,z6j,z6m,z6n,z6t,z6u,z6v,binV,eqV,unV,oOpt,reduceIte,reduceCtorEq,Nat.reduceEqDiff,Nat.reduceAdd,Nat.reduceMul,Nat.reduceLT,Nat.reduceSub,Int.reduceLT,Int.reduceLE,Int.reduceEq,Int.reduceNe,Int.reduceSub,Int.reduceAdd,Int.reduceMul,Int.reduceBEq,Int.reduceBNe,Int.reduceGT,Int.reduceGE,Nat.reduceGT,Int.reduceToNat,Int.reduceNeg,Nat.reduceLeDiff,Nat.reduceBEq,Nat.reduceBneDiff,Value.cells, g0, false_and]
abbrev RL := List (Int × List UInt8)
def EntR (es : List MapEntry) (L : RL) : Prop := es.map (fun e => (e.key, e.val)) = L.map fun x => (Value.int .i64 x.1, Value.agg (x.2.map u8V).toArray)
def getK (L : RL) (k : Int) : Option (List UInt8) := (L.find? fun x => decide (x.1 = k)).map (·.2)
theorem find_none {k : Int} : ∀ {es : List MapEntry} {L : RL} (i : Nat), EntR es L → getK L k = none → findV .int (.int .i64 k) es i = some none
  | [], _, _, _, _ => rfl
  | e :: es, [], i, h, _ => by simp [EntR] at h
  | e :: es, x :: L, i, h, hn => by
      simp only [EntR, List.map_cons, List.cons.injEq, Prod.mk.injEq] at h
      obtain ⟨⟨h1, h2⟩, h3⟩ := h
      have hx : ¬ x.1 = k := by
        intro q
        simp [getK, List.find?_cons, q] at hn
      have hn' : getK L k = none := by
        unfold getK at hn ⊢
        rw [List.find?_cons] at hn
        simpa [hx] using hn
      have hk : keyV .int (.int .i64 k) e.key = some false := by
        rw [h1]; simp [keyV]; omega
      unfold findV
      rw [hk]
      exact find_none (i + 1) h3 hn'
theorem find_some {k : Int} {w : List UInt8} : ∀ {es : List MapEntry} {L : RL} (i : Nat), EntR es L → getK L k = some w → ∃ j, findV .int (.int .i64 k) es i = some (some (j, .agg (w.map u8V).toArray))
  | [], [], _, _, hs => by simp [getK] at hs
  | [], _ :: _, _, h, _ => by simp [EntR] at h
  | e :: es, [], i, h, _ => by simp [EntR] at h
  | e :: es, x :: L, i, h, hs => by
      simp only [EntR, List.map_cons, List.cons.injEq, Prod.mk.injEq] at h
      obtain ⟨⟨h1, h2⟩, h3⟩ := h
      by_cases hx : x.1 = k
      · have hk : keyV .int (.int .i64 k) e.key = some true := by
          rw [h1]; simp [keyV]; omega
        have hw : x.2 = w := by
          unfold getK at hs
          rw [List.find?_cons] at hs
          simpa [hx] using hs
        unfold findV
        rw [hk]
        exact ⟨i, by rw [h2, hw]⟩
      · have hs' : getK L k = some w := by
          unfold getK at hs ⊢
          rw [List.find?_cons] at hs
          simpa [hx] using hs
        have hk : keyV .int (.int .i64 k) e.key = some false := by
          rw [h1]; simp [keyV]; omega
        unfold findV
        rw [hk]
        exact find_some (i + 1) h3 hs'
/-- A ring at its place. -/
def RingR (h0 H : Heap) (p : Value) (L : RL) : Prop :=
  ∃ b r es c, p = .pointer (some ⟨b, 0, none⟩) ∧ h0 b = none ∧ h0 r = none ∧ b ≠ r ∧ H b = some (.own 0 [.map (some r)] 1) ∧ H r = some (.obj (.map es c)) ∧ EntR es.toList L ∧ Stamped es c
theorem RingR.le {h0 H H' : Heap} {p : Value} {L : RL} (x : RingR h0 H p L) (le : H.le H') : RingR h0 H' p L := by
  obtain ⟨b, r, es, c, h1, h2, h3, h4, h5, h6, h7, h8⟩ := x
  exact ⟨b, r, es, c, h1, h2, h3, h4, le _ _ h5, le _ _ h6, h7, h8⟩
theorem EntR.len {es : List MapEntry} {L : RL} (h : EntR es L) : es.length = L.length := by
  have := congrArg List.length h
  simpa using this
def putF (L : RL) (k : Int) (w : List UInt8) : RL × Nat :=
  if 0 ≤ k ∧ k ≤ 1099511627776 then
    match getK L k with
    | some old => if old = w then (L, 0) else (L, 5)
    | none => if 500 ≤ L.length then (L, 2) else (L ++ [(k, w)], 0)
  else (L, 1)
theorem ent_lack {k : Int} {es : Array MapEntry} {L : RL} (h : EntR es.toList L) (hg : getK L k = none) : ∀ x ∈ es.toList, x.key ≠ .int .i64 k := by
  intro x hx e
  have h1 : (x.key, x.val) ∈ es.toList.map (fun e => (e.key, e.val)) := List.mem_map_of_mem hx
  unfold EntR at h
  rw [h] at h1
  obtain ⟨y, hy, he⟩ := List.mem_map.1 h1
  simp only [Prod.mk.injEq] at he
  rw [e] at he
  have hk : y.1 = k := by simpa using he.1
  unfold getK at hg
  rw [Option.map_eq_none_iff, List.find?_eq_none] at hg
  exact hg y hy (by simpa using hk)
theorem kfit_int (k : Int) : keyFit .int (.int .i64 k) = some () := rfl

theorem epoch_New_c (E : EnvT tab) (h : Heap) : ACallN E.toEnv n_epoch_New [] h fun r h' => h.le h' ∧ RingR h h' r [] := by
  refine acall h_epoch_New ir_epoch_New rfl rfl (wpA_sound ?_)
  unfold ir_epoch_New
  simp -implicitDefEqProofs only [zB1,zB2,zB3,zB4,zB5,zB6,zB7,zB8,zB9,zB10,zB11,y00,y01,y02,y03,y04,y05,y06,y07,y08,y09,y0a,y0b,y0c,y0d,y0e,y0f,y0g,y0h,y0i,y0j,y0k,y0l,y0m,y0n,y0o,y0p,y0q,y0r,y0s,y0t,y0u,y0v,y0w,y0x,y0y,y0z,y10,y11,y12,y13,y14,y15,y16,y17,y18,y19,y1a,y1b,y1c,y1d,y1e,y1f,y1g,y1h,y1i,y1j,y1k,y1l,y1m,y1n,y1o,y1p,y1q,y1r,retO,retL,retV,z6i,allV,allP,z6j,z6m,z6n,z6t,z6u,z6v,binV,eqV,unV,oOpt,reduceIte,reduceCtorEq,Nat.reduceEqDiff,Nat.reduceAdd,Nat.reduceMul,Nat.reduceLT,Nat.reduceSub,Int.reduceLT,Int.reduceLE,Int.reduceEq,Int.reduceNe,Int.reduceSub,Int.reduceAdd,Int.reduceMul,Int.reduceBEq,Int.reduceBNe,Int.reduceGT,Int.reduceGE,Nat.reduceGT,Int.reduceToNat,Int.reduceNeg,Nat.reduceLeDiff,Nat.reduceBEq,Nat.reduceBneDiff,Value.cells]
  intro r hr
  try simp -implicitDefEqProofs only [zB1,zB2,zB3,zB4,zB5,zB6,zB7,zB8,zB9,zB10,zB11,y00,y01,y02,y03,y04,y05,y06,y07,y08,y09,y0a,y0b,y0c,y0d,y0e,y0f,y0g,y0h,y0i,y0j,y0k,y0l,y0m,y0n,y0o,y0p,y0q,y0r,y0s,y0t,y0u,y0v,y0w,y0x,y0y,y0z,y10,y11,y12,y13,y14,y15,y16,y17,y18,y19,y1a,y1b,y1c,y1d,y1e,y1f,y1g,y1h,y1i,y1j,y1k,y1l,y1m,y1n,y1o,y1p,y1q,y1r,retO,retL,retV,z6i,allV,allP,z6j,z6m,z6n,z6t,z6u,z6v,binV,eqV,unV,oOpt,reduceIte,reduceCtorEq,Nat.reduceEqDiff,Nat.reduceAdd,Nat.reduceMul,Nat.reduceLT,Nat.reduceSub,Int.reduceLT,Int.reduceLE,Int.reduceEq,Int.reduceNe,Int.reduceSub,Int.reduceAdd,Int.reduceMul,Int.reduceBEq,Int.reduceBNe,Int.reduceGT,Int.reduceGE,Nat.reduceGT,Int.reduceToNat,Int.reduceNeg,Nat.reduceLeDiff,Nat.reduceBEq,Nat.reduceBneDiff,Value.cells]
  intro b hb
  try simp -implicitDefEqProofs only [zB1,zB2,zB3,zB4,zB5,zB6,zB7,zB8,zB9,zB10,zB11,y00,y01,y02,y03,y04,y05,y06,y07,y08,y09,y0a,y0b,y0c,y0d,y0e,y0f,y0g,y0h,y0i,y0j,y0k,y0l,y0m,y0n,y0o,y0p,y0q,y0r,y0s,y0t,y0u,y0v,y0w,y0x,y0y,y0z,y10,y11,y12,y13,y14,y15,y16,y17,y18,y19,y1a,y1b,y1c,y1d,y1e,y1f,y1g,y1h,y1i,y1j,y1k,y1l,y1m,y1n,y1o,y1p,y1q,y1r,retO,retL,retV,z6i,allV,allP,z6j,z6m,z6n,z6t,z6u,z6v,binV,eqV,unV,oOpt,reduceIte,reduceCtorEq,Nat.reduceEqDiff,Nat.reduceAdd,Nat.reduceMul,Nat.reduceLT,Nat.reduceSub,Int.reduceLT,Int.reduceLE,Int.reduceEq,Int.reduceNe,Int.reduceSub,Int.reduceAdd,Int.reduceMul,Int.reduceBEq,Int.reduceBNe,Int.reduceGT,Int.reduceGE,Nat.reduceGT,Int.reduceToNat,Int.reduceNeg,Nat.reduceLeDiff,Nat.reduceBEq,Nat.reduceBneDiff,Value.cells]
  have ne : b ≠ r := by intro e; subst e; rw [Heap.set_self] at hb; cases hb
  have hb' : h b = none := by rw [Heap.set_ne ne] at hb; exact hb
  refine ⟨Heap.le_new (Heap.le_set (Heap.le_refl _) hr _) hb _, b, r, #[], 0, rfl, hb', hr, ne, Heap.set_self _ _ _, by rw [Heap.set_ne ne.symm, Heap.set_self], rfl, stamped_empty _⟩
theorem epoch_Get_c (E : EnvT tab) {h0 H : Heap} (leH : h0.le H) {p : Value} {L : RL} (R : RingR h0 H p L) (hL : ∀ x ∈ L, x.2.length = 32) (k : Int) :
    ACallN E.toEnv n_epoch_Ring_Get [p, .int .i64 k] H fun r h' => H.le h' ∧ r = .tuple #[.agg (((getK L k).getD (List.replicate 32 0)).map u8V).toArray, .bool (getK L k).isSome] := by
  obtain ⟨b, r, es, c, rfl, hb, hr, ne, qb, qr, er, sp⟩ := R
  refine acall h_epoch_Ring_Get ir_epoch_Ring_Get rfl rfl (wpA_sound ?_)
  unfold ir_epoch_Ring_Get
  simp -implicitDefEqProofs only [zB1,zB2,zB3,zB4,zB5,zB6,zB7,zB8,zB9,zB10,zB11,y00,y01,y02,y03,y04,y05,y06,y07,y08,y09,y0a,y0b,y0c,y0d,y0e,y0f,y0g,y0h,y0i,y0j,y0k,y0l,y0m,y0n,y0o,y0p,y0q,y0r,y0s,y0t,y0u,y0v,y0w,y0x,y0y,y0z,y10,y11,y12,y13,y14,y15,y16,y17,y18,y19,y1a,y1b,y1c,y1d,y1e,y1f,y1g,y1h,y1i,y1j,y1k,y1l,y1m,y1n,y1o,y1p,y1q,y1r,retO,retL,retV,z6i,allV,allP,z6j,z6m,z6n,z6t,z6u,z6v,binV,eqV,unV,oOpt,reduceIte,reduceCtorEq,Nat.reduceEqDiff,Nat.reduceAdd,Nat.reduceMul,Nat.reduceLT,Nat.reduceSub,Int.reduceLT,Int.reduceLE,Int.reduceEq,Int.reduceNe,Int.reduceSub,Int.reduceAdd,Int.reduceMul,Int.reduceBEq,Int.reduceBNe,Int.reduceGT,Int.reduceGE,Nat.reduceGT,Int.reduceToNat,Int.reduceNeg,Nat.reduceLeDiff,Nat.reduceBEq,Nat.reduceBneDiff,Value.cells]
  intro b4 hb4
  try simp -implicitDefEqProofs only [zB1,zB2,zB3,zB4,zB5,zB6,zB7,zB8,zB9,zB10,zB11,y00,y01,y02,y03,y04,y05,y06,y07,y08,y09,y0a,y0b,y0c,y0d,y0e,y0f,y0g,y0h,y0i,y0j,y0k,y0l,y0m,y0n,y0o,y0p,y0q,y0r,y0s,y0t,y0u,y0v,y0w,y0x,y0y,y0z,y10,y11,y12,y13,y14,y15,y16,y17,y18,y19,y1a,y1b,y1c,y1d,y1e,y1f,y1g,y1h,y1i,y1j,y1k,y1l,y1m,y1n,y1o,y1p,y1q,y1r,retO,retL,retV,z6i,allV,allP,z6j,z6m,z6n,z6t,z6u,z6v,binV,eqV,unV,oOpt,reduceIte,reduceCtorEq,Nat.reduceEqDiff,Nat.reduceAdd,Nat.reduceMul,Nat.reduceLT,Nat.reduceSub,Int.reduceLT,Int.reduceLE,Int.reduceEq,Int.reduceNe,Int.reduceSub,Int.reduceAdd,Int.reduceMul,Int.reduceBEq,Int.reduceBNe,Int.reduceGT,Int.reduceGE,Nat.reduceGT,Int.reduceToNat,Int.reduceNeg,Nat.reduceLeDiff,Nat.reduceBEq,Nat.reduceBneDiff,Value.cells, List.length_replicate]
  have le4 : H.le (H.set b4 (.own 0 (List.replicate 32 (.int .u8 0)) 32)) := Heap.le_set (Heap.le_refl _) hb4 _
  have q4 : (H.set b4 (.own 0 (List.replicate 32 (.int .u8 0)) 32)) b4 = some (.own 0 (List.replicate 32 (.int .u8 0)) 32) := Heap.set_self _ _ _
  have qb := le4 _ _ qb
  have qr := le4 _ _ qr
  generalize (H.set b4 (.own 0 (List.replicate 32 (.int .u8 0)) 32)) = h1 at le4 q4 qb qr ⊢
  have cb : hcell h1 ⟨b, 0, none⟩ = some (.map (some r)) := by rw [hcell_at qb (by simp)]; rfl
  have ma : mapAt h1 r = some (es, c) := by simp [mapAt, qr]
  have zr : List.replicate 32 (Value.int .u8 0) = (List.replicate 32 (0 : UInt8)).map u8V := by rw [List.map_replicate]; rfl
  have stA : ∀ (b : Nat) (l : List Value), l.length = 32 → l.all one = true → storeV (h1.set b (.own 0 (List.replicate 32 (.int .u8 0)) 32)) 32 (.pointer (some ⟨b, 0, none⟩)) (.agg l.toArray) = some (h1.set b (.own 0 l 32)) := fun b l hl ho => z6z (by omega) (by simp [hl]) ho (by simp) (by omega)
  have stB : ∀ (G : Heap) (l : List Value), h1.le G → l.length = 32 → l.all one = true → storeV G 32 (.pointer (some ⟨b4, 0, none⟩)) (.agg l.toArray) = some (G.set b4 (.own 0 l 32)) := fun G l x hl ho => storeV_agg_at (x _ _ q4) (by omega) hl ho (by simp) (by omega)
  have ld : ∀ (G : Heap) (b : Nat) (l : List Value), l.length = 32 → hcells (G.set b (.own 0 l 32)) ⟨b, 0, none⟩ 32 = some l := fun G b l hl => z6x (by simp [hl])
  have zl : (List.replicate 32 (Value.int .u8 0)).length = 32 := by simp
  have zo : (List.replicate 32 (Value.int .u8 0)).all one = true := by rw [zr]; exact one_u8 _
  have hb4H : ∀ (G : Heap) Y, H.le G → H.le (G.set b4 Y) := fun G Y x => Heap.le_set x hb4 Y
  cases hg : getK L k with
  | none =>
    have fv := find_none 0 er hg
    simp -implicitDefEqProofs only [zB1,zB2,zB3,zB4,zB5,zB6,zB7,zB8,zB9,zB10,zB11,y00,y01,y02,y03,y04,y05,y06,y07,y08,y09,y0a,y0b,y0c,y0d,y0e,y0f,y0g,y0h,y0i,y0j,y0k,y0l,y0m,y0n,y0o,y0p,y0q,y0r,y0s,y0t,y0u,y0v,y0w,y0x,y0y,y0z,y10,y11,y12,y13,y14,y15,y16,y17,y18,y19,y1a,y1b,y1c,y1d,y1e,y1f,y1g,y1h,y1i,y1j,y1k,y1l,y1m,y1n,y1o,y1p,y1q,y1r,retO,retL,retV,z6i,allV,allP,z6j,z6m,z6n,z6t,z6u,z6v,binV,eqV,unV,oOpt,reduceIte,reduceCtorEq,Nat.reduceEqDiff,Nat.reduceAdd,Nat.reduceMul,Nat.reduceLT,Nat.reduceSub,Int.reduceLT,Int.reduceLE,Int.reduceEq,Int.reduceNe,Int.reduceSub,Int.reduceAdd,Int.reduceMul,Int.reduceBEq,Int.reduceBNe,Int.reduceGT,Int.reduceGE,Nat.reduceGT,Int.reduceToNat,Int.reduceNeg,Nat.reduceLeDiff,Nat.reduceBEq,Nat.reduceBneDiff,Value.cells, cb, ma, fv, kfit_int]
    intro b6 hb6
    rw [zl]
    have s1 := stA b6 _ zl zo
    have le6 := Heap.le_set (Heap.le_refl h1) hb6 (.own 0 (List.replicate 32 (.int .u8 0)) 32)
    have s2 := stB _ _ le6 zl zo
    have l1 := ld h1 b6 _ zl
    have l2 := ld (h1.set b6 (.own 0 (List.replicate 32 (.int .u8 0)) 32)) b4 _ zl
    simp -implicitDefEqProofs only [zB1,zB2,zB3,zB4,zB5,zB6,zB7,zB8,zB9,zB10,zB11,y00,y01,y02,y03,y04,y05,y06,y07,y08,y09,y0a,y0b,y0c,y0d,y0e,y0f,y0g,y0h,y0i,y0j,y0k,y0l,y0m,y0n,y0o,y0p,y0q,y0r,y0s,y0t,y0u,y0v,y0w,y0x,y0y,y0z,y10,y11,y12,y13,y14,y15,y16,y17,y18,y19,y1a,y1b,y1c,y1d,y1e,y1f,y1g,y1h,y1i,y1j,y1k,y1l,y1m,y1n,y1o,y1p,y1q,y1r,retO,retL,retV,z6i,allV,allP,z6j,z6m,z6n,z6t,z6u,z6v,binV,eqV,unV,oOpt,reduceIte,reduceCtorEq,Nat.reduceEqDiff,Nat.reduceAdd,Nat.reduceMul,Nat.reduceLT,Nat.reduceSub,Int.reduceLT,Int.reduceLE,Int.reduceEq,Int.reduceNe,Int.reduceSub,Int.reduceAdd,Int.reduceMul,Int.reduceBEq,Int.reduceBNe,Int.reduceGT,Int.reduceGE,Nat.reduceGT,Int.reduceToNat,Int.reduceNeg,Nat.reduceLeDiff,Nat.reduceBEq,Nat.reduceBneDiff,Value.cells, s1, s2, l1, l2]
    exact ⟨hb4H _ _ (Heap.le_trans le4 le6), by rw [zr]; rfl⟩
  | some w =>
    obtain ⟨j, fv⟩ := find_some 0 er hg
    have hw : w.length = 32 := by
      unfold getK at hg
      obtain ⟨x, hx, rfl⟩ := Option.map_eq_some_iff.1 hg
      exact hL x (List.mem_of_find?_eq_some hx)
    have wl : (w.map u8V).length = 32 := by simp [hw]
    have wo := one_u8 w
    simp -implicitDefEqProofs only [zB1,zB2,zB3,zB4,zB5,zB6,zB7,zB8,zB9,zB10,zB11,y00,y01,y02,y03,y04,y05,y06,y07,y08,y09,y0a,y0b,y0c,y0d,y0e,y0f,y0g,y0h,y0i,y0j,y0k,y0l,y0m,y0n,y0o,y0p,y0q,y0r,y0s,y0t,y0u,y0v,y0w,y0x,y0y,y0z,y10,y11,y12,y13,y14,y15,y16,y17,y18,y19,y1a,y1b,y1c,y1d,y1e,y1f,y1g,y1h,y1i,y1j,y1k,y1l,y1m,y1n,y1o,y1p,y1q,y1r,retO,retL,retV,z6i,allV,allP,z6j,z6m,z6n,z6t,z6u,z6v,binV,eqV,unV,oOpt,reduceIte,reduceCtorEq,Nat.reduceEqDiff,Nat.reduceAdd,Nat.reduceMul,Nat.reduceLT,Nat.reduceSub,Int.reduceLT,Int.reduceLE,Int.reduceEq,Int.reduceNe,Int.reduceSub,Int.reduceAdd,Int.reduceMul,Int.reduceBEq,Int.reduceBNe,Int.reduceGT,Int.reduceGE,Nat.reduceGT,Int.reduceToNat,Int.reduceNeg,Nat.reduceLeDiff,Nat.reduceBEq,Nat.reduceBneDiff,Value.cells, cb, ma, fv, kfit_int]
    intro b6 hb6
    rw [zl]
    have s1 := stA b6 _ wl wo
    have le6 := Heap.le_set (Heap.le_refl h1) hb6 (.own 0 (w.map u8V) 32)
    have s2 := stB _ _ le6 wl wo
    have l1 := ld h1 b6 _ wl
    have l2 := ld (h1.set b6 (.own 0 (w.map u8V) 32)) b4 _ wl
    simp -implicitDefEqProofs only [zB1,zB2,zB3,zB4,zB5,zB6,zB7,zB8,zB9,zB10,zB11,y00,y01,y02,y03,y04,y05,y06,y07,y08,y09,y0a,y0b,y0c,y0d,y0e,y0f,y0g,y0h,y0i,y0j,y0k,y0l,y0m,y0n,y0o,y0p,y0q,y0r,y0s,y0t,y0u,y0v,y0w,y0x,y0y,y0z,y10,y11,y12,y13,y14,y15,y16,y17,y18,y19,y1a,y1b,y1c,y1d,y1e,y1f,y1g,y1h,y1i,y1j,y1k,y1l,y1m,y1n,y1o,y1p,y1q,y1r,retO,retL,retV,z6i,allV,allP,z6j,z6m,z6n,z6t,z6u,z6v,binV,eqV,unV,oOpt,reduceIte,reduceCtorEq,Nat.reduceEqDiff,Nat.reduceAdd,Nat.reduceMul,Nat.reduceLT,Nat.reduceSub,Int.reduceLT,Int.reduceLE,Int.reduceEq,Int.reduceNe,Int.reduceSub,Int.reduceAdd,Int.reduceMul,Int.reduceBEq,Int.reduceBNe,Int.reduceGT,Int.reduceGE,Nat.reduceGT,Int.reduceToNat,Int.reduceNeg,Nat.reduceLeDiff,Nat.reduceBEq,Nat.reduceBneDiff,Value.cells, s1, s2, l1, l2]
    exact ⟨hb4H _ _ (Heap.le_trans le4 le6), rfl⟩

theorem epoch_Put_c (E : EnvT tab) {h0 H : Heap} (leH : h0.le H) {p : Value} {L : RL} (R : RingR h0 H p L) (hL : ∀ x ∈ L, x.2.length = 32) (k : Int) (w : List UInt8) (hw : w.length = 32) :
    ACallN E.toEnv n_epoch_Ring_Put [p, .int .i64 k, .agg (w.map u8V).toArray] H fun r h' => h0.le h' ∧ r = .int .i64 ((putF L k w).2 : Nat) ∧ RingR h0 h' p (putF L k w).1 := by
  obtain ⟨b, r, es, c, rfl, hb, hr, ne, qb, qr, er, sp⟩ := R
  refine acall h_epoch_Ring_Put ir_epoch_Ring_Put rfl rfl (wpA_sound ?_)
  unfold ir_epoch_Ring_Put
  have wl : (w.map u8V).length = 32 := by simp [hw]
  simp -implicitDefEqProofs only [zB1,zB2,zB3,zB4,zB5,zB6,zB7,zB8,zB9,zB10,zB11,y00,y01,y02,y03,y04,y05,y06,y07,y08,y09,y0a,y0b,y0c,y0d,y0e,y0f,y0g,y0h,y0i,y0j,y0k,y0l,y0m,y0n,y0o,y0p,y0q,y0r,y0s,y0t,y0u,y0v,y0w,y0x,y0y,y0z,y10,y11,y12,y13,y14,y15,y16,y17,y18,y19,y1a,y1b,y1c,y1d,y1e,y1f,y1g,y1h,y1i,y1j,y1k,y1l,y1m,y1n,y1o,y1p,y1q,y1r,retO,retL,retV,z6i,allV,allP,z6j,z6m,z6n,z6t,z6u,z6v,binV,eqV,unV,oOpt,reduceIte,reduceCtorEq,Nat.reduceEqDiff,Nat.reduceAdd,Nat.reduceMul,Nat.reduceLT,Nat.reduceSub,Int.reduceLT,Int.reduceLE,Int.reduceEq,Int.reduceNe,Int.reduceSub,Int.reduceAdd,Int.reduceMul,Int.reduceBEq,Int.reduceBNe,Int.reduceGT,Int.reduceGE,Nat.reduceGT,Int.reduceToNat,Int.reduceNeg,Nat.reduceLeDiff,Nat.reduceBEq,Nat.reduceBneDiff,Value.cells]
  intro b5 hb5
  try simp -implicitDefEqProofs only [zB1,zB2,zB3,zB4,zB5,zB6,zB7,zB8,zB9,zB10,zB11,y00,y01,y02,y03,y04,y05,y06,y07,y08,y09,y0a,y0b,y0c,y0d,y0e,y0f,y0g,y0h,y0i,y0j,y0k,y0l,y0m,y0n,y0o,y0p,y0q,y0r,y0s,y0t,y0u,y0v,y0w,y0x,y0y,y0z,y10,y11,y12,y13,y14,y15,y16,y17,y18,y19,y1a,y1b,y1c,y1d,y1e,y1f,y1g,y1h,y1i,y1j,y1k,y1l,y1m,y1n,y1o,y1p,y1q,y1r,retO,retL,retV,z6i,allV,allP,z6j,z6m,z6n,z6t,z6u,z6v,binV,eqV,unV,oOpt,reduceIte,reduceCtorEq,Nat.reduceEqDiff,Nat.reduceAdd,Nat.reduceMul,Nat.reduceLT,Nat.reduceSub,Int.reduceLT,Int.reduceLE,Int.reduceEq,Int.reduceNe,Int.reduceSub,Int.reduceAdd,Int.reduceMul,Int.reduceBEq,Int.reduceBNe,Int.reduceGT,Int.reduceGE,Nat.reduceGT,Int.reduceToNat,Int.reduceNeg,Nat.reduceLeDiff,Nat.reduceBEq,Nat.reduceBneDiff,Value.cells, wl]
  have le5 : H.le (H.set b5 (.own 0 (w.map u8V) 32)) := Heap.le_set (Heap.le_refl _) hb5 _
  have q5 : (H.set b5 (.own 0 (w.map u8V) 32)) b5 = some (.own 0 (w.map u8V) 32) := Heap.set_self _ _ _
  have qb := le5 _ _ qb
  have qr := le5 _ _ qr
  have leH := Heap.le_trans leH le5
  generalize (H.set b5 (.own 0 (w.map u8V) 32)) = h1 at leH q5 qb qr ⊢
  refine (epoch_good_c E h1 k).mono ?_
  rintro rr h3 ⟨e3, rfl⟩
  obtain rfl := e3.symm
  have zl : (List.replicate 32 (Value.int .u8 0)).length = 32 := by simp
  have cb : ∀ G, h1.le G → hcell G ⟨b, 0, none⟩ = some (.map (some r)) := fun G x => by rw [hcell_at (x _ _ qb) (by simp)]; rfl
  have cb1 := cb h1 (Heap.le_refl _)
  have ma : ∀ G, h1.le G → mapAt G r = some (es, c) := fun G x => by simp [mapAt, x _ _ qr]
  have ma1 := ma h1 (Heap.le_refl _)
  have c5 : ∀ G, h1.le G → hcells G ⟨b5, 0, none⟩ 32 = some (w.map u8V) := fun G x => by rw [hcells_at (x _ _ q5) (by simp [hw])]; simp [List.take_of_length_le, hw]
  have stA : ∀ (b : Nat) (l : List Value), l.length = 32 → l.all one = true → storeV (h1.set b (.own 0 (List.replicate 32 (.int .u8 0)) 32)) 32 (.pointer (some ⟨b, 0, none⟩)) (.agg l.toArray) = some (h1.set b (.own 0 l 32)) := fun b l hl ho => z6z (by omega) (by simp [hl]) ho (by simp) (by omega)
  have ld : ∀ (G : Heap) (b : Nat) (l : List Value), l.length = 32 → hcells (G.set b (.own 0 l 32)) ⟨b, 0, none⟩ 32 = some l := fun G b l hl => z6x (by simp [hl])
  have keep : ∀ G, h1.le G → RingR h0 G (.pointer (some ⟨b, 0, none⟩)) L := fun G x => ⟨b, r, es, c, rfl, hb, hr, ne, x _ _ qb, x _ _ qr, er, sp⟩
  by_cases g : 0 ≤ k ∧ k ≤ 1099511627776
  · unfold putF
    rw [if_pos g]
    cases hg : getK L k with
    | none =>
      have fv := find_none 0 er hg
      simp -implicitDefEqProofs only [zB1,zB2,zB3,zB4,zB5,zB6,zB7,zB8,zB9,zB10,zB11,y00,y01,y02,y03,y04,y05,y06,y07,y08,y09,y0a,y0b,y0c,y0d,y0e,y0f,y0g,y0h,y0i,y0j,y0k,y0l,y0m,y0n,y0o,y0p,y0q,y0r,y0s,y0t,y0u,y0v,y0w,y0x,y0y,y0z,y10,y11,y12,y13,y14,y15,y16,y17,y18,y19,y1a,y1b,y1c,y1d,y1e,y1f,y1g,y1h,y1i,y1j,y1k,y1l,y1m,y1n,y1o,y1p,y1q,y1r,retO,retL,retV,z6i,allV,allP,z6j,z6m,z6n,z6t,z6u,z6v,binV,eqV,unV,oOpt,reduceIte,reduceCtorEq,Nat.reduceEqDiff,Nat.reduceAdd,Nat.reduceMul,Nat.reduceLT,Nat.reduceSub,Int.reduceLT,Int.reduceLE,Int.reduceEq,Int.reduceNe,Int.reduceSub,Int.reduceAdd,Int.reduceMul,Int.reduceBEq,Int.reduceBNe,Int.reduceGT,Int.reduceGE,Nat.reduceGT,Int.reduceToNat,Int.reduceNeg,Nat.reduceLeDiff,Nat.reduceBEq,Nat.reduceBneDiff,Value.cells, g]
      unfold ir_epoch_Ring_Put_13
      simp -implicitDefEqProofs only [zB1,zB2,zB3,zB4,zB5,zB6,zB7,zB8,zB9,zB10,zB11,y00,y01,y02,y03,y04,y05,y06,y07,y08,y09,y0a,y0b,y0c,y0d,y0e,y0f,y0g,y0h,y0i,y0j,y0k,y0l,y0m,y0n,y0o,y0p,y0q,y0r,y0s,y0t,y0u,y0v,y0w,y0x,y0y,y0z,y10,y11,y12,y13,y14,y15,y16,y17,y18,y19,y1a,y1b,y1c,y1d,y1e,y1f,y1g,y1h,y1i,y1j,y1k,y1l,y1m,y1n,y1o,y1p,y1q,y1r,retO,retL,retV,z6i,allV,allP,z6j,z6m,z6n,z6t,z6u,z6v,binV,eqV,unV,oOpt,reduceIte,reduceCtorEq,Nat.reduceEqDiff,Nat.reduceAdd,Nat.reduceMul,Nat.reduceLT,Nat.reduceSub,Int.reduceLT,Int.reduceLE,Int.reduceEq,Int.reduceNe,Int.reduceSub,Int.reduceAdd,Int.reduceMul,Int.reduceBEq,Int.reduceBNe,Int.reduceGT,Int.reduceGE,Nat.reduceGT,Int.reduceToNat,Int.reduceNeg,Nat.reduceLeDiff,Nat.reduceBEq,Nat.reduceBneDiff,Value.cells, cb1, ma1, fv, kfit_int]
      intro b7 hb7
      rw [zl]
      have zo : (List.replicate 32 (Value.int .u8 0)).all one = true := by
        have zr : List.replicate 32 (Value.int .u8 0) = (List.replicate 32 (0 : UInt8)).map u8V := by rw [List.map_replicate]; rfl
        rw [zr]; exact one_u8 _
      have s1 := stA b7 _ zl zo
      simp -implicitDefEqProofs only [zB1,zB2,zB3,zB4,zB5,zB6,zB7,zB8,zB9,zB10,zB11,y00,y01,y02,y03,y04,y05,y06,y07,y08,y09,y0a,y0b,y0c,y0d,y0e,y0f,y0g,y0h,y0i,y0j,y0k,y0l,y0m,y0n,y0o,y0p,y0q,y0r,y0s,y0t,y0u,y0v,y0w,y0x,y0y,y0z,y10,y11,y12,y13,y14,y15,y16,y17,y18,y19,y1a,y1b,y1c,y1d,y1e,y1f,y1g,y1h,y1i,y1j,y1k,y1l,y1m,y1n,y1o,y1p,y1q,y1r,retO,retL,retV,z6i,allV,allP,z6j,z6m,z6n,z6t,z6u,z6v,binV,eqV,unV,oOpt,reduceIte,reduceCtorEq,Nat.reduceEqDiff,Nat.reduceAdd,Nat.reduceMul,Nat.reduceLT,Nat.reduceSub,Int.reduceLT,Int.reduceLE,Int.reduceEq,Int.reduceNe,Int.reduceSub,Int.reduceAdd,Int.reduceMul,Int.reduceBEq,Int.reduceBNe,Int.reduceGT,Int.reduceGE,Nat.reduceGT,Int.reduceToNat,Int.reduceNeg,Nat.reduceLeDiff,Nat.reduceBEq,Nat.reduceBneDiff,Value.cells, s1]
      have le7 := Heap.le_set (Heap.le_refl h1) hb7 (.own 0 (List.replicate 32 (.int .u8 0)) 32)
      generalize (h1.set b7 (.own 0 (List.replicate 32 (.int .u8 0)) 32)) = h2 at le7 ⊢
      have cb2 := cb h2 le7
      have ma2 := ma h2 le7
      have c52 := c5 h2 le7
      unfold ir_epoch_Ring_Put_25
      have el : es.size = L.length := by
        have := er.len
        simpa using this
      by_cases g5 : 500 ≤ L.length
      · have g5' : (500 : Int) ≤ (es.size : Int) := by rw [el]; omega
        simp -implicitDefEqProofs only [zB1,zB2,zB3,zB4,zB5,zB6,zB7,zB8,zB9,zB10,zB11,y00,y01,y02,y03,y04,y05,y06,y07,y08,y09,y0a,y0b,y0c,y0d,y0e,y0f,y0g,y0h,y0i,y0j,y0k,y0l,y0m,y0n,y0o,y0p,y0q,y0r,y0s,y0t,y0u,y0v,y0w,y0x,y0y,y0z,y10,y11,y12,y13,y14,y15,y16,y17,y18,y19,y1a,y1b,y1c,y1d,y1e,y1f,y1g,y1h,y1i,y1j,y1k,y1l,y1m,y1n,y1o,y1p,y1q,y1r,retO,retL,retV,z6i,allV,allP,z6j,z6m,z6n,z6t,z6u,z6v,binV,eqV,unV,oOpt,reduceIte,reduceCtorEq,Nat.reduceEqDiff,Nat.reduceAdd,Nat.reduceMul,Nat.reduceLT,Nat.reduceSub,Int.reduceLT,Int.reduceLE,Int.reduceEq,Int.reduceNe,Int.reduceSub,Int.reduceAdd,Int.reduceMul,Int.reduceBEq,Int.reduceBNe,Int.reduceGT,Int.reduceGE,Nat.reduceGT,Int.reduceToNat,Int.reduceNeg,Nat.reduceLeDiff,Nat.reduceBEq,Nat.reduceBneDiff,Value.cells, cb2, ma2, g5', g5]
        exact ⟨Heap.le_trans leH le7, keep h2 le7⟩
      · have g5' : ¬ (500 : Int) ≤ (es.size : Int) := by rw [el]; omega
        have mu : mupdV h2 .int (.map (some r)) (.int .i64 k) (.agg (w.map u8V).toArray) = some (h2.set r (.obj (.map (es.push { key := .int .i64 k, val := .agg (w.map u8V).toArray, born := c }) (c + 1)))) := by
          simp only [mupdV, le7 _ _ qr, kfit_int, fv]
        simp -implicitDefEqProofs only [zB1,zB2,zB3,zB4,zB5,zB6,zB7,zB8,zB9,zB10,zB11,y00,y01,y02,y03,y04,y05,y06,y07,y08,y09,y0a,y0b,y0c,y0d,y0e,y0f,y0g,y0h,y0i,y0j,y0k,y0l,y0m,y0n,y0o,y0p,y0q,y0r,y0s,y0t,y0u,y0v,y0w,y0x,y0y,y0z,y10,y11,y12,y13,y14,y15,y16,y17,y18,y19,y1a,y1b,y1c,y1d,y1e,y1f,y1g,y1h,y1i,y1j,y1k,y1l,y1m,y1n,y1o,y1p,y1q,y1r,retO,retL,retV,z6i,allV,allP,z6j,z6m,z6n,z6t,z6u,z6v,binV,eqV,unV,oOpt,reduceIte,reduceCtorEq,Nat.reduceEqDiff,Nat.reduceAdd,Nat.reduceMul,Nat.reduceLT,Nat.reduceSub,Int.reduceLT,Int.reduceLE,Int.reduceEq,Int.reduceNe,Int.reduceSub,Int.reduceAdd,Int.reduceMul,Int.reduceBEq,Int.reduceBNe,Int.reduceGT,Int.reduceGE,Nat.reduceGT,Int.reduceToNat,Int.reduceNeg,Nat.reduceLeDiff,Nat.reduceBEq,Nat.reduceBneDiff,Value.cells, cb2, ma2, g5', g5, c52, mu]
        refine ⟨Heap.le_set (Heap.le_trans leH le7) hr _, b, r, _, _, rfl, hb, hr, ne, by rw [Heap.set_ne ne]; exact le7 _ _ qb, Heap.set_self _ _ _, ?_, stamped_push sp (ent_lack er hg)⟩
        unfold EntR at er ⊢
        rw [Array.toList_push, List.map_append, List.map_append, er]
        rfl
    | some old =>
      obtain ⟨j, fv⟩ := find_some 0 er hg
      have ho : old.length = 32 := by
        unfold getK at hg
        obtain ⟨x, hx, rfl⟩ := Option.map_eq_some_iff.1 hg
        exact hL x (List.mem_of_find?_eq_some hx)
      have ol : (old.map u8V).length = 32 := by simp [ho]
      simp -implicitDefEqProofs only [zB1,zB2,zB3,zB4,zB5,zB6,zB7,zB8,zB9,zB10,zB11,y00,y01,y02,y03,y04,y05,y06,y07,y08,y09,y0a,y0b,y0c,y0d,y0e,y0f,y0g,y0h,y0i,y0j,y0k,y0l,y0m,y0n,y0o,y0p,y0q,y0r,y0s,y0t,y0u,y0v,y0w,y0x,y0y,y0z,y10,y11,y12,y13,y14,y15,y16,y17,y18,y19,y1a,y1b,y1c,y1d,y1e,y1f,y1g,y1h,y1i,y1j,y1k,y1l,y1m,y1n,y1o,y1p,y1q,y1r,retO,retL,retV,z6i,allV,allP,z6j,z6m,z6n,z6t,z6u,z6v,binV,eqV,unV,oOpt,reduceIte,reduceCtorEq,Nat.reduceEqDiff,Nat.reduceAdd,Nat.reduceMul,Nat.reduceLT,Nat.reduceSub,Int.reduceLT,Int.reduceLE,Int.reduceEq,Int.reduceNe,Int.reduceSub,Int.reduceAdd,Int.reduceMul,Int.reduceBEq,Int.reduceBNe,Int.reduceGT,Int.reduceGE,Nat.reduceGT,Int.reduceToNat,Int.reduceNeg,Nat.reduceLeDiff,Nat.reduceBEq,Nat.reduceBneDiff,Value.cells, g]
      unfold ir_epoch_Ring_Put_13
      simp -implicitDefEqProofs only [zB1,zB2,zB3,zB4,zB5,zB6,zB7,zB8,zB9,zB10,zB11,y00,y01,y02,y03,y04,y05,y06,y07,y08,y09,y0a,y0b,y0c,y0d,y0e,y0f,y0g,y0h,y0i,y0j,y0k,y0l,y0m,y0n,y0o,y0p,y0q,y0r,y0s,y0t,y0u,y0v,y0w,y0x,y0y,y0z,y10,y11,y12,y13,y14,y15,y16,y17,y18,y19,y1a,y1b,y1c,y1d,y1e,y1f,y1g,y1h,y1i,y1j,y1k,y1l,y1m,y1n,y1o,y1p,y1q,y1r,retO,retL,retV,z6i,allV,allP,z6j,z6m,z6n,z6t,z6u,z6v,binV,eqV,unV,oOpt,reduceIte,reduceCtorEq,Nat.reduceEqDiff,Nat.reduceAdd,Nat.reduceMul,Nat.reduceLT,Nat.reduceSub,Int.reduceLT,Int.reduceLE,Int.reduceEq,Int.reduceNe,Int.reduceSub,Int.reduceAdd,Int.reduceMul,Int.reduceBEq,Int.reduceBNe,Int.reduceGT,Int.reduceGE,Nat.reduceGT,Int.reduceToNat,Int.reduceNeg,Nat.reduceLeDiff,Nat.reduceBEq,Nat.reduceBneDiff,Value.cells, cb1, ma1, fv, kfit_int]
      intro b7 hb7
      rw [zl]
      have s1 := stA b7 _ ol (one_u8 old)
      simp -implicitDefEqProofs only [zB1,zB2,zB3,zB4,zB5,zB6,zB7,zB8,zB9,zB10,zB11,y00,y01,y02,y03,y04,y05,y06,y07,y08,y09,y0a,y0b,y0c,y0d,y0e,y0f,y0g,y0h,y0i,y0j,y0k,y0l,y0m,y0n,y0o,y0p,y0q,y0r,y0s,y0t,y0u,y0v,y0w,y0x,y0y,y0z,y10,y11,y12,y13,y14,y15,y16,y17,y18,y19,y1a,y1b,y1c,y1d,y1e,y1f,y1g,y1h,y1i,y1j,y1k,y1l,y1m,y1n,y1o,y1p,y1q,y1r,retO,retL,retV,z6i,allV,allP,z6j,z6m,z6n,z6t,z6u,z6v,binV,eqV,unV,oOpt,reduceIte,reduceCtorEq,Nat.reduceEqDiff,Nat.reduceAdd,Nat.reduceMul,Nat.reduceLT,Nat.reduceSub,Int.reduceLT,Int.reduceLE,Int.reduceEq,Int.reduceNe,Int.reduceSub,Int.reduceAdd,Int.reduceMul,Int.reduceBEq,Int.reduceBNe,Int.reduceGT,Int.reduceGE,Nat.reduceGT,Int.reduceToNat,Int.reduceNeg,Nat.reduceLeDiff,Nat.reduceBEq,Nat.reduceBneDiff,Value.cells, s1]
      have le7 := Heap.le_set (Heap.le_refl h1) hb7 (.own 0 (old.map u8V) 32)
      have l1 := ld h1 b7 _ ol
      generalize (h1.set b7 (.own 0 (old.map u8V) 32)) = h2 at le7 l1 ⊢
      have c52 := c5 h2 le7
      have k1 := leaves_u8 old
      rw [ho] at k1
      have k2 := leaves_u8 w
      rw [hw] at k2
      have k3 := leavesEq_dec old w (by rw [ho, hw])
      by_cases e : old = w
      · subst e
        have k3 : leavesEq (old.map u8V) (old.map u8V) = true := leavesEq_u8 _
        simp -implicitDefEqProofs only [zB1,zB2,zB3,zB4,zB5,zB6,zB7,zB8,zB9,zB10,zB11,y00,y01,y02,y03,y04,y05,y06,y07,y08,y09,y0a,y0b,y0c,y0d,y0e,y0f,y0g,y0h,y0i,y0j,y0k,y0l,y0m,y0n,y0o,y0p,y0q,y0r,y0s,y0t,y0u,y0v,y0w,y0x,y0y,y0z,y10,y11,y12,y13,y14,y15,y16,y17,y18,y19,y1a,y1b,y1c,y1d,y1e,y1f,y1g,y1h,y1i,y1j,y1k,y1l,y1m,y1n,y1o,y1p,y1q,y1r,retO,retL,retV,z6i,allV,allP,z6j,z6m,z6n,z6t,z6u,z6v,binV,eqV,unV,oOpt,reduceIte,reduceCtorEq,Nat.reduceEqDiff,Nat.reduceAdd,Nat.reduceMul,Nat.reduceLT,Nat.reduceSub,Int.reduceLT,Int.reduceLE,Int.reduceEq,Int.reduceNe,Int.reduceSub,Int.reduceAdd,Int.reduceMul,Int.reduceBEq,Int.reduceBNe,Int.reduceGT,Int.reduceGE,Nat.reduceGT,Int.reduceToNat,Int.reduceNeg,Nat.reduceLeDiff,Nat.reduceBEq,Nat.reduceBneDiff,Value.cells, l1, c52, k1, k2, k3]
        exact ⟨Heap.le_trans leH le7, keep h2 le7⟩
      · have k3 : leavesEq (old.map u8V) (w.map u8V) = false := by rw [k3]; simp [e]
        simp -implicitDefEqProofs only [zB1,zB2,zB3,zB4,zB5,zB6,zB7,zB8,zB9,zB10,zB11,y00,y01,y02,y03,y04,y05,y06,y07,y08,y09,y0a,y0b,y0c,y0d,y0e,y0f,y0g,y0h,y0i,y0j,y0k,y0l,y0m,y0n,y0o,y0p,y0q,y0r,y0s,y0t,y0u,y0v,y0w,y0x,y0y,y0z,y10,y11,y12,y13,y14,y15,y16,y17,y18,y19,y1a,y1b,y1c,y1d,y1e,y1f,y1g,y1h,y1i,y1j,y1k,y1l,y1m,y1n,y1o,y1p,y1q,y1r,retO,retL,retV,z6i,allV,allP,z6j,z6m,z6n,z6t,z6u,z6v,binV,eqV,unV,oOpt,reduceIte,reduceCtorEq,Nat.reduceEqDiff,Nat.reduceAdd,Nat.reduceMul,Nat.reduceLT,Nat.reduceSub,Int.reduceLT,Int.reduceLE,Int.reduceEq,Int.reduceNe,Int.reduceSub,Int.reduceAdd,Int.reduceMul,Int.reduceBEq,Int.reduceBNe,Int.reduceGT,Int.reduceGE,Nat.reduceGT,Int.reduceToNat,Int.reduceNeg,Nat.reduceLeDiff,Nat.reduceBEq,Nat.reduceBneDiff,Value.cells, l1, c52, k1, k2, k3, e]
        exact ⟨Heap.le_trans leH le7, keep h2 le7⟩
  · unfold putF
    rw [if_neg g]
    simp -implicitDefEqProofs only [zB1,zB2,zB3,zB4,zB5,zB6,zB7,zB8,zB9,zB10,zB11,y00,y01,y02,y03,y04,y05,y06,y07,y08,y09,y0a,y0b,y0c,y0d,y0e,y0f,y0g,y0h,y0i,y0j,y0k,y0l,y0m,y0n,y0o,y0p,y0q,y0r,y0s,y0t,y0u,y0v,y0w,y0x,y0y,y0z,y10,y11,y12,y13,y14,y15,y16,y17,y18,y19,y1a,y1b,y1c,y1d,y1e,y1f,y1g,y1h,y1i,y1j,y1k,y1l,y1m,y1n,y1o,y1p,y1q,y1r,retO,retL,retV,z6i,allV,allP,z6j,z6m,z6n,z6t,z6u,z6v,binV,eqV,unV,oOpt,reduceIte,reduceCtorEq,Nat.reduceEqDiff,Nat.reduceAdd,Nat.reduceMul,Nat.reduceLT,Nat.reduceSub,Int.reduceLT,Int.reduceLE,Int.reduceEq,Int.reduceNe,Int.reduceSub,Int.reduceAdd,Int.reduceMul,Int.reduceBEq,Int.reduceBNe,Int.reduceGT,Int.reduceGE,Nat.reduceGT,Int.reduceToNat,Int.reduceNeg,Nat.reduceLeDiff,Nat.reduceBEq,Nat.reduceBneDiff,Value.cells, g]
    exact ⟨leH, keep h1 (Heap.le_refl _)⟩

/-- The least that is none of theirs lies below. -/
theorem ent_keys {es : Array MapEntry} {L : RL} (h : EntR es.toList L) (z : Int) : (∃ x ∈ es.toList, x.key = .int .i64 z) ↔ ∃ y ∈ L, y.1 = z := by
  have e : es.toList.map (fun e => e.key) = L.map fun x => Value.int .i64 x.1 := by
    have := congrArg (List.map Prod.fst) h
    simpa [List.map_map, Function.comp_def] using this
  constructor
  · rintro ⟨x, hx, hz⟩
    have h1 : x.key ∈ es.toList.map (fun e => e.key) := List.mem_map_of_mem hx
    rw [e, hz] at h1
    obtain ⟨y, hy, he⟩ := List.mem_map.1 h1
    exact ⟨y, hy, by simpa using he⟩
  · rintro ⟨y, hy, rfl⟩
    have h1 : Value.int .i64 y.1 ∈ L.map fun x => Value.int .i64 x.1 := List.mem_map_of_mem hy
    rw [← e] at h1
    obtain ⟨x, hx, he⟩ := List.mem_map.1 h1
    exact ⟨x, hx, he⟩
theorem ent_int {es : Array MapEntry} {L : RL} (h : EntR es.toList L) (hL : ∀ y ∈ L, 0 ≤ y.1 ∧ y.1 ≤ 1099511627776) : ∀ x ∈ es.toList, ∃ z : Int, x.key = .int .i64 z ∧ (Lit.int .i64 z).wf = true := by
  intro x hx
  have e : es.toList.map (fun e => e.key) = L.map fun x => Value.int .i64 x.1 := by
    have := congrArg (List.map Prod.fst) h
    simpa [List.map_map, Function.comp_def] using this
  have h1 : x.key ∈ es.toList.map (fun e => e.key) := List.mem_map_of_mem hx
  rw [e] at h1
  obtain ⟨y, hy, he⟩ := List.mem_map.1 h1
  have := hL y hy
  refine ⟨y.1, he.symm, ?_⟩
  simp [Lit.wf, IntKind.min, IntKind.max, IntKind.signed, IntKind.bits]
  omega
theorem epoch_Len_c (E : EnvT tab) {h0 H : Heap} {p : Value} {L : RL} (R : RingR h0 H p L) : ACallN E.toEnv n_epoch_Ring_Len [p] H fun r h' => h' = H ∧ r = .int .i64 L.length := by
  obtain ⟨b, r, es, c, rfl, hb, hr, ne, qb, qr, er, sp⟩ := R
  refine acall h_epoch_Ring_Len ir_epoch_Ring_Len rfl rfl (wpA_sound ?_)
  unfold ir_epoch_Ring_Len
  have cb : hcell H ⟨b, 0, none⟩ = some (.map (some r)) := by rw [hcell_at qb (by simp)]; rfl
  have ma : mapAt H r = some (es, c) := by simp [mapAt, qr]
  have el : es.size = L.length := by
    have := er.len
    simpa using this
  simp -implicitDefEqProofs only [zB1,zB2,zB3,zB4,zB5,zB6,zB7,zB8,zB9,zB10,zB11,y00,y01,y02,y03,y04,y05,y06,y07,y08,y09,y0a,y0b,y0c,y0d,y0e,y0f,y0g,y0h,y0i,y0j,y0k,y0l,y0m,y0n,y0o,y0p,y0q,y0r,y0s,y0t,y0u,y0v,y0w,y0x,y0y,y0z,y10,y11,y12,y13,y14,y15,y16,y17,y18,y19,y1a,y1b,y1c,y1d,y1e,y1f,y1g,y1h,y1i,y1j,y1k,y1l,y1m,y1n,y1o,y1p,y1q,y1r,retO,retL,retV,z6i,allV,allP,z6j,z6m,z6n,z6t,z6u,z6v,binV,eqV,unV,oOpt,reduceIte,reduceCtorEq,Nat.reduceEqDiff,Nat.reduceAdd,Nat.reduceMul,Nat.reduceLT,Nat.reduceSub,Int.reduceLT,Int.reduceLE,Int.reduceEq,Int.reduceNe,Int.reduceSub,Int.reduceAdd,Int.reduceMul,Int.reduceBEq,Int.reduceBNe,Int.reduceGT,Int.reduceGE,Nat.reduceGT,Int.reduceToNat,Int.reduceNeg,Nat.reduceLeDiff,Nat.reduceBEq,Nat.reduceBneDiff,Value.cells, cb, ma]
  rw [el]
theorem slices_Max_c (E : EnvT tab) {H : Heap} {v : Value} (ks : List Int) (s : Sl H 1 v ks.length (ks.map (.int .i64))) (hn : 0 < ks.length) (hb : ks.length ≤ 1000000) : ACallN E.toEnv n_slices_Max_int64_int64 [v] H fun r h' => h' = H ∧ ∃ m, r = .int .i64 m ∧ m ∈ ks ∧ ∀ k ∈ ks, k ≤ m := by
  obtain ⟨b, o, c, rfl, hc, hcl⟩ := s.ptr hn (by omega)
  rw [Nat.mul_one] at hcl
  have cell : ∀ i (h : i < ks.length), hcell H ⟨b, o + i, none⟩ = some (.int .i64 ks[i]) := fun i h => by
    rw [hcell_of hcl i h, List.getElem?_map, List.getElem?_eq_getElem h]; rfl
  refine acall h_slices_Max_int64_int64 ir_slices_Max_int64_int64 rfl rfl (wpA_sound ?_)
  unfold ir_slices_Max_int64_int64
  have g0 : ¬ (ks.length : Int) < 1 := by omega
  have g1 : (0 : Int) < ks.length := by omega
  have c0 := cell 0 hn
  rw [Nat.add_zero] at c0
  simp -implicitDefEqProofs only [zB1,zB2,zB3,zB4,zB5,zB6,zB7,zB8,zB9,zB10,zB11,y00,y01,y02,y03,y04,y05,y06,y07,y08,y09,y0a,y0b,y0c,y0d,y0e,y0f,y0g,y0h,y0i,y0j,y0k,y0l,y0m,y0n,y0o,y0p,y0q,y0r,y0s,y0t,y0u,y0v,y0w,y0x,y0y,y0z,y10,y11,y12,y13,y14,y15,y16,y17,y18,y19,y1a,y1b,y1c,y1d,y1e,y1f,y1g,y1h,y1i,y1j,y1k,y1l,y1m,y1n,y1o,y1p,y1q,y1r,retO,retL,retV,z6i,allV,allP,z6j,z6m,z6n,z6t,z6u,z6v,binV,eqV,unV,oOpt,reduceIte,reduceCtorEq,Nat.reduceEqDiff,Nat.reduceAdd,Nat.reduceMul,Nat.reduceLT,Nat.reduceSub,Int.reduceLT,Int.reduceLE,Int.reduceEq,Int.reduceNe,Int.reduceSub,Int.reduceAdd,Int.reduceMul,Int.reduceBEq,Int.reduceBNe,Int.reduceGT,Int.reduceGE,Nat.reduceGT,Int.reduceToNat,Int.reduceNeg,Nat.reduceLeDiff,Nat.reduceBEq,Nat.reduceBneDiff,Value.cells, g0, g1, c0]
  refine wp_loop' (fun m t G => G = H ∧ ∃ (i : Nat) (b1 : Int), t = tl [(0, .slice (some ⟨b, o, none⟩) ks.length c), (3, .int .i64 b1), (4, .int .i64 i)] ∧ 1 ≤ i ∧ i ≤ ks.length ∧ m = ks.length - i ∧ b1 ∈ ks ∧ ∀ k ∈ ks.take i, k ≤ b1) (ks.length - 1)
    ⟨rfl, 1, ks[0], rfl, by omega, by omega, by omega, List.getElem_mem hn, ?_⟩ ?_
  · intro k hk
    have : ks.take 1 = [ks[0]] := by
      rw [List.take_one]; simp [List.head?_eq_getElem?, hn]
    rw [this, List.mem_singleton] at hk
    subst hk; exact Int.le_refl _
  rintro m t G ⟨rfl, i, b1, rfl, hi0, hi, rfl, hm, hk⟩
  by_cases hlt : i < ks.length
  · have hi1 : (i : Int) < ks.length := by omega
    have hi2 : (0 : Int) ≤ i := by omega
    have w1 : IntKind.i64.wrap ((i : Int) + 1) = ((i + 1 : Nat) : Int) := wrapN (by omega)
    have ci := cell i hlt
    simp -implicitDefEqProofs only [zB1,zB2,zB3,zB4,zB5,zB6,zB7,zB8,zB9,zB10,zB11,y00,y01,y02,y03,y04,y05,y06,y07,y08,y09,y0a,y0b,y0c,y0d,y0e,y0f,y0g,y0h,y0i,y0j,y0k,y0l,y0m,y0n,y0o,y0p,y0q,y0r,y0s,y0t,y0u,y0v,y0w,y0x,y0y,y0z,y10,y11,y12,y13,y14,y15,y16,y17,y18,y19,y1a,y1b,y1c,y1d,y1e,y1f,y1g,y1h,y1i,y1j,y1k,y1l,y1m,y1n,y1o,y1p,y1q,y1r,retO,retL,retV,z6i,allV,allP,z6j,z6m,z6n,z6t,z6u,z6v,binV,eqV,unV,oOpt,reduceIte,reduceCtorEq,Nat.reduceEqDiff,Nat.reduceAdd,Nat.reduceMul,Nat.reduceLT,Nat.reduceSub,Int.reduceLT,Int.reduceLE,Int.reduceEq,Int.reduceNe,Int.reduceSub,Int.reduceAdd,Int.reduceMul,Int.reduceBEq,Int.reduceBNe,Int.reduceGT,Int.reduceGE,Nat.reduceGT,Int.reduceToNat,Int.reduceNeg,Nat.reduceLeDiff,Nat.reduceBEq,Nat.reduceBneDiff,Value.cells, hi1, hi2, Int.toNat_natCast, ci, w1]
    refine ⟨_, ?_, i + 1, _, rfl, by omega, by omega, rfl, ?_, ?_⟩
    · omega
    · split
      · exact List.getElem_mem hlt
      · exact hm
    · rw [List.take_succ_eq_append_getElem hlt]
      intro k hk2
      rcases List.mem_append.1 hk2 with hk2 | hk2
      · have := hk k hk2
        split <;> omega
      · rw [List.mem_singleton] at hk2
        subst hk2
        split <;> omega
  · have hi1 : ¬ (i : Int) < ks.length := by omega
    have e : i = ks.length := by omega
    subst e
    rw [List.take_length] at hk
    simp -implicitDefEqProofs only [zB1,zB2,zB3,zB4,zB5,zB6,zB7,zB8,zB9,zB10,zB11,y00,y01,y02,y03,y04,y05,y06,y07,y08,y09,y0a,y0b,y0c,y0d,y0e,y0f,y0g,y0h,y0i,y0j,y0k,y0l,y0m,y0n,y0o,y0p,y0q,y0r,y0s,y0t,y0u,y0v,y0w,y0x,y0y,y0z,y10,y11,y12,y13,y14,y15,y16,y17,y18,y19,y1a,y1b,y1c,y1d,y1e,y1f,y1g,y1h,y1i,y1j,y1k,y1l,y1m,y1n,y1o,y1p,y1q,y1r,retO,retL,retV,z6i,allV,allP,z6j,z6m,z6n,z6t,z6u,z6v,binV,eqV,unV,oOpt,reduceIte,reduceCtorEq,Nat.reduceEqDiff,Nat.reduceAdd,Nat.reduceMul,Nat.reduceLT,Nat.reduceSub,Int.reduceLT,Int.reduceLE,Int.reduceEq,Int.reduceNe,Int.reduceSub,Int.reduceAdd,Int.reduceMul,Int.reduceBEq,Int.reduceBNe,Int.reduceGT,Int.reduceGE,Nat.reduceGT,Int.reduceToNat,Int.reduceNeg,Nat.reduceLeDiff,Nat.reduceBEq,Nat.reduceBneDiff,Value.cells, hi1]
    exact ⟨b1, rfl, hm, hk⟩
theorem maps_Keys_c (E : EnvT tab) {H : Heap} (r : Nat) : ACallN E.toEnv n_maps_Keys_map_int64_api_Word_int64_api_Word [.map (some r)] H fun v h' => ∃ bx g, H bx = none ∧ E.fid n_maps_Keys_map_int64_api_Word_int64_api_Word_1 = some g ∧ v = .func (.func g) #[] #[.pointer (some ⟨bx, 0, none⟩)] ∧ h' = H.set bx (.own 0 [.map (some r)] 1) := by
  obtain ⟨g, hg⟩ := E.full n_maps_Keys_map_int64_api_Word_int64_api_Word_1 rfl
  have hg' : E.toEnv.fid 195 = some g := hg
  refine acall h_maps_Keys_map_int64_api_Word_int64_api_Word ir_maps_Keys_map_int64_api_Word_int64_api_Word rfl rfl (wpA_sound ?_)
  unfold ir_maps_Keys_map_int64_api_Word_int64_api_Word
  simp -implicitDefEqProofs only [zB1,zB2,zB3,zB4,zB5,zB6,zB7,zB8,zB9,zB10,zB11,y00,y01,y02,y03,y04,y05,y06,y07,y08,y09,y0a,y0b,y0c,y0d,y0e,y0f,y0g,y0h,y0i,y0j,y0k,y0l,y0m,y0n,y0o,y0p,y0q,y0r,y0s,y0t,y0u,y0v,y0w,y0x,y0y,y0z,y10,y11,y12,y13,y14,y15,y16,y17,y18,y19,y1a,y1b,y1c,y1d,y1e,y1f,y1g,y1h,y1i,y1j,y1k,y1l,y1m,y1n,y1o,y1p,y1q,y1r,retO,retL,retV,z6i,allV,allP,z6j,z6m,z6n,z6t,z6u,z6v,binV,eqV,unV,oOpt,reduceIte,reduceCtorEq,Nat.reduceEqDiff,Nat.reduceAdd,Nat.reduceMul,Nat.reduceLT,Nat.reduceSub,Int.reduceLT,Int.reduceLE,Int.reduceEq,Int.reduceNe,Int.reduceSub,Int.reduceAdd,Int.reduceMul,Int.reduceBEq,Int.reduceBNe,Int.reduceGT,Int.reduceGE,Nat.reduceGT,Int.reduceToNat,Int.reduceNeg,Nat.reduceLeDiff,Nat.reduceBEq,Nat.reduceBneDiff,Value.cells]
  intro bx hbx
  try simp -implicitDefEqProofs only [zB1,zB2,zB3,zB4,zB5,zB6,zB7,zB8,zB9,zB10,zB11,y00,y01,y02,y03,y04,y05,y06,y07,y08,y09,y0a,y0b,y0c,y0d,y0e,y0f,y0g,y0h,y0i,y0j,y0k,y0l,y0m,y0n,y0o,y0p,y0q,y0r,y0s,y0t,y0u,y0v,y0w,y0x,y0y,y0z,y10,y11,y12,y13,y14,y15,y16,y17,y18,y19,y1a,y1b,y1c,y1d,y1e,y1f,y1g,y1h,y1i,y1j,y1k,y1l,y1m,y1n,y1o,y1p,y1q,y1r,retO,retL,retV,z6i,allV,allP,z6j,z6m,z6n,z6t,z6u,z6v,binV,eqV,unV,oOpt,reduceIte,reduceCtorEq,Nat.reduceEqDiff,Nat.reduceAdd,Nat.reduceMul,Nat.reduceLT,Nat.reduceSub,Int.reduceLT,Int.reduceLE,Int.reduceEq,Int.reduceNe,Int.reduceSub,Int.reduceAdd,Int.reduceMul,Int.reduceBEq,Int.reduceBNe,Int.reduceGT,Int.reduceGE,Nat.reduceGT,Int.reduceToNat,Int.reduceNeg,Nat.reduceLeDiff,Nat.reduceBEq,Nat.reduceBneDiff,Value.cells, hg']
  refine ⟨bx, g, hbx, rfl, ?_⟩
  first | exact ⟨rfl, rfl⟩ | exact rfl | simp
/-- What the program's own text gives: how a map's keys are collected. -/
def ColOk (E : EnvT tab) : Prop := ∀ (H : Heap) (bx m : Nat) (es : Array MapEntry) (clk : Nat) (g : FuncId), E.fid n_maps_Keys_map_int64_api_Word_int64_api_Word_1 = some g → H bx = some (.own 0 [.map (some m)] 1) → H m = some (.obj (.map es clk)) → Stamped es clk → (∀ x ∈ es.toList, ∃ z : Int, x.key = .int .i64 z ∧ (Lit.int .i64 z).wf = true) → es.size ≤ 100000 →
  ACallN E.toEnv n_slices_AppendSeq_int64_int64 [.slice none 0 0, .func (.func g) #[] #[.pointer (some ⟨bx, 0, none⟩)]] H fun v h' => ∃ ss : List Int, ss.length ≤ es.size ∧ H.le h' ∧ Ow H h' 1 v ss.length (ss.map (.int .i64)) ∧ ∀ z, z ∈ ss ↔ ∃ x ∈ es.toList, x.key = .int .i64 z
theorem colOk {E : EnvT tab} {ρ : Go.Shelf.Ren} (L10 : Go.Proofs.SlLaysZI.n10 E.P ρ) (L11 : Go.Proofs.SlLaysZI.n11 E.P ρ) (h10 : E.fid n_maps_Keys_map_int64_api_Word_int64_api_Word_1 = some (ρ.f 10)) (h11 : E.fid n_slices_AppendSeq_int64_int64 = some (ρ.f 11)) : ColOk E := by
  intro H bx m es clk g hg qb qm st hk hsz f hf
  rw [h10] at hg
  rw [h11] at hf
  cases hg
  cases hf
  exact collect_calls E.toEnv L10 L11 (L10.f10.enters rfl) qb qm st hk hsz fun v h' ss n a b c => ⟨ss, n, a, b, c⟩
/-- The greatest of a ring. -/
def lastK (L : RL) (m : Int) : Prop := (∃ y ∈ L, y.1 = m) ∧ ∀ y ∈ L, y.1 ≤ m
theorem epoch_Last_c (E : EnvT tab) (X : ColOk E) {h0 H : Heap} {p : Value} {L : RL} (R : RingR h0 H p L) (hL : ∀ y ∈ L, 0 ≤ y.1 ∧ y.1 ≤ 1099511627776) (hn : L.length ≤ 1000) :
    ACallN E.toEnv n_epoch_Ring_Last [p] H fun r h' => H.le h' ∧ ∃ m, r = .tuple #[.int .i64 m, .bool (decide (0 < L.length))] ∧ (L = [] → m = 0) ∧ (0 < L.length → lastK L m) := by
  obtain ⟨b, r, es, c, rfl, hb, hr, ne, qb, qr, er, sp⟩ := R
  refine acall h_epoch_Ring_Last ir_epoch_Ring_Last rfl rfl (wpA_sound ?_)
  unfold ir_epoch_Ring_Last
  have cb : hcell H ⟨b, 0, none⟩ = some (.map (some r)) := by rw [hcell_at qb (by simp)]; rfl
  have ma : mapAt H r = some (es, c) := by simp [mapAt, qr]
  have el : es.size = L.length := by
    have := er.len
    simpa using this
  by_cases h : L = []
  · subst h
    have e0 : es.size = 0 := el
    have eb : ((es.size : Int) == 0) = true := by rw [e0]; rfl
    have e0i : (es.size : Int) = 0 := by rw [e0]; rfl
    simp -implicitDefEqProofs only [zB1,zB2,zB3,zB4,zB5,zB6,zB7,zB8,zB9,zB10,zB11,y00,y01,y02,y03,y04,y05,y06,y07,y08,y09,y0a,y0b,y0c,y0d,y0e,y0f,y0g,y0h,y0i,y0j,y0k,y0l,y0m,y0n,y0o,y0p,y0q,y0r,y0s,y0t,y0u,y0v,y0w,y0x,y0y,y0z,y10,y11,y12,y13,y14,y15,y16,y17,y18,y19,y1a,y1b,y1c,y1d,y1e,y1f,y1g,y1h,y1i,y1j,y1k,y1l,y1m,y1n,y1o,y1p,y1q,y1r,retO,retL,retV,z6i,allV,allP,z6j,z6m,z6n,z6t,z6u,z6v,binV,eqV,unV,oOpt,reduceIte,reduceCtorEq,Nat.reduceEqDiff,Nat.reduceAdd,Nat.reduceMul,Nat.reduceLT,Nat.reduceSub,Int.reduceLT,Int.reduceLE,Int.reduceEq,Int.reduceNe,Int.reduceSub,Int.reduceAdd,Int.reduceMul,Int.reduceBEq,Int.reduceBNe,Int.reduceGT,Int.reduceGE,Nat.reduceGT,Int.reduceToNat,Int.reduceNeg,Nat.reduceLeDiff,Nat.reduceBEq,Nat.reduceBneDiff,Value.cells, cb, ma, e0i]
    exact ⟨Heap.le_refl _, 0, rfl, rfl⟩
  · have hpos : 0 < L.length := List.length_pos_iff.2 h
    have e0i : ¬ (es.size : Int) = 0 := by omega
    simp -implicitDefEqProofs only [zB1,zB2,zB3,zB4,zB5,zB6,zB7,zB8,zB9,zB10,zB11,y00,y01,y02,y03,y04,y05,y06,y07,y08,y09,y0a,y0b,y0c,y0d,y0e,y0f,y0g,y0h,y0i,y0j,y0k,y0l,y0m,y0n,y0o,y0p,y0q,y0r,y0s,y0t,y0u,y0v,y0w,y0x,y0y,y0z,y10,y11,y12,y13,y14,y15,y16,y17,y18,y19,y1a,y1b,y1c,y1d,y1e,y1f,y1g,y1h,y1i,y1j,y1k,y1l,y1m,y1n,y1o,y1p,y1q,y1r,retO,retL,retV,z6i,allV,allP,z6j,z6m,z6n,z6t,z6u,z6v,binV,eqV,unV,oOpt,reduceIte,reduceCtorEq,Nat.reduceEqDiff,Nat.reduceAdd,Nat.reduceMul,Nat.reduceLT,Nat.reduceSub,Int.reduceLT,Int.reduceLE,Int.reduceEq,Int.reduceNe,Int.reduceSub,Int.reduceAdd,Int.reduceMul,Int.reduceBEq,Int.reduceBNe,Int.reduceGT,Int.reduceGE,Nat.reduceGT,Int.reduceToNat,Int.reduceNeg,Nat.reduceLeDiff,Nat.reduceBEq,Nat.reduceBneDiff,Value.cells, cb, ma, e0i]
    refine (maps_Keys_c E r).mono ?_
    rintro v h1 ⟨bx, g, hbx, hg, rfl, rfl⟩
    have le1 := Heap.le_set (Heap.le_refl H) hbx (.own 0 [.map (some r)] 1)
    simp -implicitDefEqProofs only [zB1,zB2,zB3,zB4,zB5,zB6,zB7,zB8,zB9,zB10,zB11,y00,y01,y02,y03,y04,y05,y06,y07,y08,y09,y0a,y0b,y0c,y0d,y0e,y0f,y0g,y0h,y0i,y0j,y0k,y0l,y0m,y0n,y0o,y0p,y0q,y0r,y0s,y0t,y0u,y0v,y0w,y0x,y0y,y0z,y10,y11,y12,y13,y14,y15,y16,y17,y18,y19,y1a,y1b,y1c,y1d,y1e,y1f,y1g,y1h,y1i,y1j,y1k,y1l,y1m,y1n,y1o,y1p,y1q,y1r,retO,retL,retV,z6i,allV,allP,z6j,z6m,z6n,z6t,z6u,z6v,binV,eqV,unV,oOpt,reduceIte,reduceCtorEq,Nat.reduceEqDiff,Nat.reduceAdd,Nat.reduceMul,Nat.reduceLT,Nat.reduceSub,Int.reduceLT,Int.reduceLE,Int.reduceEq,Int.reduceNe,Int.reduceSub,Int.reduceAdd,Int.reduceMul,Int.reduceBEq,Int.reduceBNe,Int.reduceGT,Int.reduceGE,Nat.reduceGT,Int.reduceToNat,Int.reduceNeg,Nat.reduceLeDiff,Nat.reduceBEq,Nat.reduceBneDiff,Value.cells]
    refine acall h_slices_Collect_int64 ir_slices_Collect_int64 rfl rfl (wpA_sound ?_)
    unfold ir_slices_Collect_int64
    simp -implicitDefEqProofs only [zB1,zB2,zB3,zB4,zB5,zB6,zB7,zB8,zB9,zB10,zB11,y00,y01,y02,y03,y04,y05,y06,y07,y08,y09,y0a,y0b,y0c,y0d,y0e,y0f,y0g,y0h,y0i,y0j,y0k,y0l,y0m,y0n,y0o,y0p,y0q,y0r,y0s,y0t,y0u,y0v,y0w,y0x,y0y,y0z,y10,y11,y12,y13,y14,y15,y16,y17,y18,y19,y1a,y1b,y1c,y1d,y1e,y1f,y1g,y1h,y1i,y1j,y1k,y1l,y1m,y1n,y1o,y1p,y1q,y1r,retO,retL,retV,z6i,allV,allP,z6j,z6m,z6n,z6t,z6u,z6v,binV,eqV,unV,oOpt,reduceIte,reduceCtorEq,Nat.reduceEqDiff,Nat.reduceAdd,Nat.reduceMul,Nat.reduceLT,Nat.reduceSub,Int.reduceLT,Int.reduceLE,Int.reduceEq,Int.reduceNe,Int.reduceSub,Int.reduceAdd,Int.reduceMul,Int.reduceBEq,Int.reduceBNe,Int.reduceGT,Int.reduceGE,Nat.reduceGT,Int.reduceToNat,Int.reduceNeg,Nat.reduceLeDiff,Nat.reduceBEq,Nat.reduceBneDiff,Value.cells]
    refine (X _ bx r es c g hg (Heap.set_self _ _ _) (le1 _ _ qr) sp (ent_int er hL) (by omega)).mono ?_
    rintro v h2 ⟨ss, hsl, le2, ow, hs⟩
    have hss : 0 < ss.length := by
      cases L with
      | nil => exact absurd rfl h
      | cons y L =>
        have := (hs y.1).2 ((ent_keys er y.1).2 ⟨y, by simp, rfl⟩)
        exact List.length_pos_of_mem this
    simp -implicitDefEqProofs only [zB1,zB2,zB3,zB4,zB5,zB6,zB7,zB8,zB9,zB10,zB11,y00,y01,y02,y03,y04,y05,y06,y07,y08,y09,y0a,y0b,y0c,y0d,y0e,y0f,y0g,y0h,y0i,y0j,y0k,y0l,y0m,y0n,y0o,y0p,y0q,y0r,y0s,y0t,y0u,y0v,y0w,y0x,y0y,y0z,y10,y11,y12,y13,y14,y15,y16,y17,y18,y19,y1a,y1b,y1c,y1d,y1e,y1f,y1g,y1h,y1i,y1j,y1k,y1l,y1m,y1n,y1o,y1p,y1q,y1r,retO,retL,retV,z6i,allV,allP,z6j,z6m,z6n,z6t,z6u,z6v,binV,eqV,unV,oOpt,reduceIte,reduceCtorEq,Nat.reduceEqDiff,Nat.reduceAdd,Nat.reduceMul,Nat.reduceLT,Nat.reduceSub,Int.reduceLT,Int.reduceLE,Int.reduceEq,Int.reduceNe,Int.reduceSub,Int.reduceAdd,Int.reduceMul,Int.reduceBEq,Int.reduceBNe,Int.reduceGT,Int.reduceGE,Nat.reduceGT,Int.reduceToNat,Int.reduceNeg,Nat.reduceLeDiff,Nat.reduceBEq,Nat.reduceBneDiff,Value.cells]
    refine (slices_Max_c E ss ow.sl hss (by omega)).mono ?_
    rintro v h3 ⟨rfl, m, rfl, hm, hk⟩
    simp -implicitDefEqProofs only [zB1,zB2,zB3,zB4,zB5,zB6,zB7,zB8,zB9,zB10,zB11,y00,y01,y02,y03,y04,y05,y06,y07,y08,y09,y0a,y0b,y0c,y0d,y0e,y0f,y0g,y0h,y0i,y0j,y0k,y0l,y0m,y0n,y0o,y0p,y0q,y0r,y0s,y0t,y0u,y0v,y0w,y0x,y0y,y0z,y10,y11,y12,y13,y14,y15,y16,y17,y18,y19,y1a,y1b,y1c,y1d,y1e,y1f,y1g,y1h,y1i,y1j,y1k,y1l,y1m,y1n,y1o,y1p,y1q,y1r,retO,retL,retV,z6i,allV,allP,z6j,z6m,z6n,z6t,z6u,z6v,binV,eqV,unV,oOpt,reduceIte,reduceCtorEq,Nat.reduceEqDiff,Nat.reduceAdd,Nat.reduceMul,Nat.reduceLT,Nat.reduceSub,Int.reduceLT,Int.reduceLE,Int.reduceEq,Int.reduceNe,Int.reduceSub,Int.reduceAdd,Int.reduceMul,Int.reduceBEq,Int.reduceBNe,Int.reduceGT,Int.reduceGE,Nat.reduceGT,Int.reduceToNat,Int.reduceNeg,Nat.reduceLeDiff,Nat.reduceBEq,Nat.reduceBneDiff,Value.cells, hpos]
    refine ⟨Heap.le_trans le1 le2, m, rfl, fun q => absurd q h, ⟨(ent_keys er m).1 ((hs m).1 hm), fun y hy => hk _ ((hs y.1).2 ((ent_keys er y.1).2 ⟨y, hy, rfl⟩))⟩⟩
end Go.Bb
/- Contracts: the document's own rings of keys. -/
namespace Go.Bb
set_option linter.unusedSimpArgs false
set_option linter.unusedVariables false
set_option maxRecDepth 20000
set_option maxHeartbeats 2000000

def pad32 (l : List UInt8) : List UInt8 := (l ++ List.replicate 32 0).take 32
theorem pad32_len (l : List UInt8) : (pad32 l).length = 32 := by simp [pad32]
theorem pad32_eq {l : List UInt8} (h : l.length = 32) : pad32 l = l := by unfold pad32; rw [← h, List.take_left]
def cellK (x : Int × List UInt8) : List Value := .int .i64 x.1 :: (pad32 x.2).map u8V
theorem cellK_len (x : Int × List UInt8) : (cellK x).length = 33 := by simp [cellK, pad32_len]
def WG (H : Heap) (w : Nat) (L : RL) : Prop := ∃ lv, H w = some (.own 0 [lv] 1) ∧ Sl H 33 lv L.length (L.flatMap cellK)
theorem WG.le {H H' : Heap} {w : Nat} {L : RL} (x : WG H w L) (le : H.le H') : WG H' w L := by
  obtain ⟨lv, q, s⟩ := x
  exact ⟨lv, le _ _ q, s.le le⟩
theorem cellK_at {H : Heap} {base : Option Addr} {c : Nat} {L : RL} (s : Sl H 33 (.slice base L.length c) L.length (L.flatMap cellK)) (i : Nat) (hi : i < L.length) :
    ∃ b o, base = some ⟨b, o, none⟩ ∧ ∀ G, H.le G → hcell G ⟨b, o + i * 33, none⟩ = some (.int .i64 L[i].1) ∧ hcells G ⟨b, o + i * 33 + 1, none⟩ 32 = some ((pad32 L[i].2).map u8V) := by
  obtain ⟨b, o, c', hv, -, hcl⟩ := Sl.at (f := cellK) (size := 33) cellK_len s i hi (by omega)
  simp only [Value.slice.injEq, true_and] at hv
  refine ⟨b, o, hv.1, fun G le => ?_⟩
  have h := hcl G le
  have h0 := hcell_of h 0 (by omega)
  have h1 := hcells_sub h 1 32 (by omega)
  refine ⟨by rw [Nat.add_zero] at h0; rw [h0]; rfl, ?_⟩
  rw [h1]
  have : ((cellK L[i]).drop 1).take 32 = (pad32 L[i].2).map u8V := by
    unfold cellK
    rw [List.drop_succ_cons, List.drop_zero, List.take_of_length_le (by simp [pad32_len])]
  rw [this]
theorem ref_MayE_c (E : EnvT tab) (h : Heap) (n : Int) : ACallN E.toEnv n_bandboxref19_May [.int .i64 n] h fun r h' => h' = h ∧ r = .bool (decide (0 ≤ n ∧ n ≤ 1099511627776)) := by
  refine acall h_bandboxref19_May ir_bandboxref19_May rfl rfl (wpA_sound ?_)
  unfold ir_bandboxref19_May
  by_cases g0 : 0 ≤ n
  · by_cases g1 : n ≤ 1099511627776
    · simp -implicitDefEqProofs only [zB1,zB2,zB3,zB4,zB5,zB6,zB7,zB8,zB9,zB10,zB11,y00,y01,y02,y03,y04,y05,y06,y07,y08,y09,y0a,y0b,y0c,y0d,y0e,y0f,y0g,y0h,y0i,y0j,y0k,y0l,y0m,y0n,y0o,y0p,y0q,y0r,y0s,y0t,y0u,y0v,y0w,y0x,y0y,y0z,y10,y11,y12,y13,y14,y15,y16,y17,y18,y19,y1a,y1b,y1c,y1d,y1e,y1f,y1g,y1h,y1i,y1j,y1k,y1l,y1m,y1n,y1o,y1p,y1q,y1r,retO,retL,retV,z6i,allV,allP,z6j,z6m,z6n,z6t,z6u,z6v,binV,eqV,unV,oOpt,reduceIte,reduceCtorEq,Nat.reduceEqDiff,Nat.reduceAdd,Nat.reduceMul,Nat.reduceLT,Nat.reduceSub,Int.reduceLT,Int.reduceLE,Int.reduceEq,Int.reduceNe,Int.reduceSub,Int.reduceAdd,Int.reduceMul,Int.reduceBEq,Int.reduceBNe,Int.reduceGT,Int.reduceGE,Nat.reduceGT,Int.reduceToNat,Int.reduceNeg,Nat.reduceLeDiff,Nat.reduceBEq,Nat.reduceBneDiff,Value.cells, g0, g1]
    · simp -implicitDefEqProofs only [zB1,zB2,zB3,zB4,zB5,zB6,zB7,zB8,zB9,zB10,zB11,y00,y01,y02,y03,y04,y05,y06,y07,y08,y09,y0a,y0b,y0c,y0d,y0e,y0f,y0g,y0h,y0i,y0j,y0k,y0l,y0m,y0n,y0o,y0p,y0q,y0r,y0s,y0t,y0u,y0v,y0w,y0x,y0y,y0z,y10,y11,y12,y13,y14,y15,y16,y17,y18,y19,y1a,y1b,y1c,y1d,y1e,y1f,y1g,y1h,y1i,y1j,y1k,y1l,y1m,y1n,y1o,y1p,y1q,y1r,retO,retL,retV,z6i,allV,allP,z6j,z6m,z6n,z6t,z6u,z6v,binV,eqV,unV,oOpt,reduceIte,reduceCtorEq,Nat.reduceEqDiff,Nat.reduceAdd,Nat.reduceMul,Nat.reduceLT,Nat.reduceSub,Int.reduceLT,Int.reduceLE,Int.reduceEq,Int.reduceNe,Int.reduceSub,Int.reduceAdd,Int.reduceMul,Int.reduceBEq,Int.reduceBNe,Int.reduceGT,Int.reduceGE,Nat.reduceGT,Int.reduceToNat,Int.reduceNeg,Nat.reduceLeDiff,Nat.reduceBEq,Nat.reduceBneDiff,Value.cells, g0, g1]
  · simp -implicitDefEqProofs only [zB1,zB2,zB3,zB4,zB5,zB6,zB7,zB8,zB9,zB10,zB11,y00,y01,y02,y03,y04,y05,y06,y07,y08,y09,y0a,y0b,y0c,y0d,y0e,y0f,y0g,y0h,y0i,y0j,y0k,y0l,y0m,y0n,y0o,y0p,y0q,y0r,y0s,y0t,y0u,y0v,y0w,y0x,y0y,y0z,y10,y11,y12,y13,y14,y15,y16,y17,y18,y19,y1a,y1b,y1c,y1d,y1e,y1f,y1g,y1h,y1i,y1j,y1k,y1l,y1m,y1n,y1o,y1p,y1q,y1r,retO,retL,retV,z6i,allV,allP,z6j,z6m,z6n,z6t,z6u,z6v,binV,eqV,unV,oOpt,reduceIte,reduceCtorEq,Nat.reduceEqDiff,Nat.reduceAdd,Nat.reduceMul,Nat.reduceLT,Nat.reduceSub,Int.reduceLT,Int.reduceLE,Int.reduceEq,Int.reduceNe,Int.reduceSub,Int.reduceAdd,Int.reduceMul,Int.reduceBEq,Int.reduceBNe,Int.reduceGT,Int.reduceGE,Nat.reduceGT,Int.reduceToNat,Int.reduceNeg,Nat.reduceLeDiff,Nat.reduceBEq,Nat.reduceBneDiff,Value.cells, g0, false_and]
theorem getK_app {A B : RL} {k : Int} (h : ∀ y ∈ A, y.1 ≠ k) : getK (A ++ B) k = getK B k := by
  unfold getK
  rw [List.find?_append]
  have : A.find? (fun x => decide (x.1 = k)) = none := by
    rw [List.find?_eq_none]; intro y hy; simpa using h y hy
  rw [this, Option.none_or]
theorem getK_at {L : RL} {k : Int} {i : Nat} (hi : i < L.length) (h : ∀ y ∈ L.take i, y.1 ≠ k) (e : L[i].1 = k) : getK L k = some L[i].2 := by
  have : L = L.take i ++ L[i] :: L.drop (i + 1) := by
    conv => lhs; rw [← List.take_append_drop i L, List.drop_eq_getElem_cons hi]
  generalize L[i] = x at this e ⊢
  rw [this, getK_app h]
  simp [getK, e]
theorem getK_no {L : RL} {k : Int} (h : ∀ y ∈ L, y.1 ≠ k) : getK L k = none := by
  have := getK_app (B := []) h
  rw [List.append_nil] at this
  rw [this]; rfl
theorem cellK_ones (L : RL) : (L.flatMap cellK).all one = true := by
  rw [List.all_eq_true]
  intro v hv
  obtain ⟨x, -, hx⟩ := List.mem_flatMap.1 hv
  unfold cellK at hx
  rcases List.mem_cons.1 hx with rfl | hx
  · rfl
  · obtain ⟨u, -, rfl⟩ := List.mem_map.1 hx; rfl
theorem ref_Put_c (E : EnvT tab) {H : Heap} {w : Nat} {L : RL} (R : WG H w L) (h32 : ∀ x ∈ L, x.2.length = 32) (hn : L.length ≤ 1000) (k : Int) (wd : List UInt8) (hw : wd.length = 32) :
    ACallN E.toEnv n_bandboxref19_Ring_Put [.pointer (some ⟨w, 0, none⟩), .int .i64 k, .agg (wd.map u8V).toArray] H fun r h' => r = .int .i64 ((putF L k wd).2 : Nat) ∧
      ((H.le h' ∧ (putF L k wd).1 = L) ∨ ∃ lv, h' w = some (.own 0 [lv] 1) ∧ Ow H h' 33 lv (putF L k wd).1.length ((putF L k wd).1.flatMap cellK) ∧ ∀ c x, c ≠ w → H c = some x → h' c = some x) := by
  obtain ⟨lv, q, s⟩ := R
  obtain ⟨lb, lc, rfl⟩ := Sl.shape s
  refine acall h_bandboxref19_Ring_Put ir_bandboxref19_Ring_Put rfl rfl (wpA_sound ?_)
  unfold ir_bandboxref19_Ring_Put
  have wl : (wd.map u8V).length = 32 := by simp [hw]
  simp -implicitDefEqProofs only [zB1,zB2,zB3,zB4,zB5,zB6,zB7,zB8,zB9,zB10,zB11,y00,y01,y02,y03,y04,y05,y06,y07,y08,y09,y0a,y0b,y0c,y0d,y0e,y0f,y0g,y0h,y0i,y0j,y0k,y0l,y0m,y0n,y0o,y0p,y0q,y0r,y0s,y0t,y0u,y0v,y0w,y0x,y0y,y0z,y10,y11,y12,y13,y14,y15,y16,y17,y18,y19,y1a,y1b,y1c,y1d,y1e,y1f,y1g,y1h,y1i,y1j,y1k,y1l,y1m,y1n,y1o,y1p,y1q,y1r,retO,retL,retV,z6i,allV,allP,z6j,z6m,z6n,z6t,z6u,z6v,binV,eqV,unV,oOpt,reduceIte,reduceCtorEq,Nat.reduceEqDiff,Nat.reduceAdd,Nat.reduceMul,Nat.reduceLT,Nat.reduceSub,Int.reduceLT,Int.reduceLE,Int.reduceEq,Int.reduceNe,Int.reduceSub,Int.reduceAdd,Int.reduceMul,Int.reduceBEq,Int.reduceBNe,Int.reduceGT,Int.reduceGE,Nat.reduceGT,Int.reduceToNat,Int.reduceNeg,Nat.reduceLeDiff,Nat.reduceBEq,Nat.reduceBneDiff,Value.cells]
  intro b5 hb5
  try simp -implicitDefEqProofs only [zB1,zB2,zB3,zB4,zB5,zB6,zB7,zB8,zB9,zB10,zB11,y00,y01,y02,y03,y04,y05,y06,y07,y08,y09,y0a,y0b,y0c,y0d,y0e,y0f,y0g,y0h,y0i,y0j,y0k,y0l,y0m,y0n,y0o,y0p,y0q,y0r,y0s,y0t,y0u,y0v,y0w,y0x,y0y,y0z,y10,y11,y12,y13,y14,y15,y16,y17,y18,y19,y1a,y1b,y1c,y1d,y1e,y1f,y1g,y1h,y1i,y1j,y1k,y1l,y1m,y1n,y1o,y1p,y1q,y1r,retO,retL,retV,z6i,allV,allP,z6j,z6m,z6n,z6t,z6u,z6v,binV,eqV,unV,oOpt,reduceIte,reduceCtorEq,Nat.reduceEqDiff,Nat.reduceAdd,Nat.reduceMul,Nat.reduceLT,Nat.reduceSub,Int.reduceLT,Int.reduceLE,Int.reduceEq,Int.reduceNe,Int.reduceSub,Int.reduceAdd,Int.reduceMul,Int.reduceBEq,Int.reduceBNe,Int.reduceGT,Int.reduceGE,Nat.reduceGT,Int.reduceToNat,Int.reduceNeg,Nat.reduceLeDiff,Nat.reduceBEq,Nat.reduceBneDiff,Value.cells, wl]
  have le5 : H.le (H.set b5 (.own 0 (wd.map u8V) 32)) := Heap.le_set (Heap.le_refl _) hb5 _
  have q5 : (H.set b5 (.own 0 (wd.map u8V) 32)) b5 = some (.own 0 (wd.map u8V) 32) := Heap.set_self _ _ _
  generalize hH1 : (H.set b5 (.own 0 (wd.map u8V) 32)) = H1 at le5 q5 ⊢
  refine (ref_MayE_c E H1 k).mono ?_
  rintro rr H1' ⟨rfl, rfl⟩
  have c0 : hcell H1' ⟨w, 0, none⟩ = some (.slice lb L.length lc) := by rw [hcell_at (le5 _ _ q) (by simp)]; rfl
  have s1 := s.le le5
  have c5 : ∀ G, H1'.le G → hcells G ⟨b5, 0, none⟩ 32 = some (wd.map u8V) := fun G x => by rw [hcells_at (x _ _ q5) (by simp [hw])]; simp [List.take_of_length_le, hw]
  have c50 := c5 H1' (Heap.le_refl _)
  by_cases g : 0 ≤ k ∧ k ≤ 1099511627776
  · unfold putF
    rw [if_pos g]
    simp -implicitDefEqProofs only [zB1,zB2,zB3,zB4,zB5,zB6,zB7,zB8,zB9,zB10,zB11,y00,y01,y02,y03,y04,y05,y06,y07,y08,y09,y0a,y0b,y0c,y0d,y0e,y0f,y0g,y0h,y0i,y0j,y0k,y0l,y0m,y0n,y0o,y0p,y0q,y0r,y0s,y0t,y0u,y0v,y0w,y0x,y0y,y0z,y10,y11,y12,y13,y14,y15,y16,y17,y18,y19,y1a,y1b,y1c,y1d,y1e,y1f,y1g,y1h,y1i,y1j,y1k,y1l,y1m,y1n,y1o,y1p,y1q,y1r,retO,retL,retV,z6i,allV,allP,z6j,z6m,z6n,z6t,z6u,z6v,binV,eqV,unV,oOpt,reduceIte,reduceCtorEq,Nat.reduceEqDiff,Nat.reduceAdd,Nat.reduceMul,Nat.reduceLT,Nat.reduceSub,Int.reduceLT,Int.reduceLE,Int.reduceEq,Int.reduceNe,Int.reduceSub,Int.reduceAdd,Int.reduceMul,Int.reduceBEq,Int.reduceBNe,Int.reduceGT,Int.reduceGE,Nat.reduceGT,Int.reduceToNat,Int.reduceNeg,Nat.reduceLeDiff,Nat.reduceBEq,Nat.reduceBneDiff,Value.cells, g]
    refine wp_loop' (fun m t G => G = H1' ∧ ∃ (i : Nat), t = tl [(0, .pointer (some ⟨w, 0, none⟩)), (1, .int .i64 k), (5, .pointer (some ⟨b5, 0, none⟩)), (7, .int .i64 i)] ∧ i ≤ L.length ∧ m = L.length - i ∧ ∀ y ∈ L.take i, y.1 ≠ k) L.length
      ⟨rfl, 0, rfl, by omega, by omega, by simp⟩ ?_
    rintro m t G ⟨rfl, i, rfl, hi, rfl, h0⟩
    by_cases hlt : i < L.length
    · have hi1 : (i : Int) < L.length := by omega
      have hi2 : (0 : Int) ≤ i := by omega
      have w1 : IntKind.i64.wrap ((i : Int) + 1) = ((i + 1 : Nat) : Int) := wrapN (by omega)
      obtain ⟨b, o, rfl, hc⟩ := cellK_at s1 i hlt
      obtain ⟨ci, cw⟩ := hc G (Heap.le_refl _)
      have et : L.take (i + 1) = L.take i ++ [L[i]] := List.take_succ_eq_append_getElem hlt
      have l32 := h32 _ (List.getElem_mem hlt)
      rw [pad32_eq l32] at cw
      simp -implicitDefEqProofs only [zB1,zB2,zB3,zB4,zB5,zB6,zB7,zB8,zB9,zB10,zB11,y00,y01,y02,y03,y04,y05,y06,y07,y08,y09,y0a,y0b,y0c,y0d,y0e,y0f,y0g,y0h,y0i,y0j,y0k,y0l,y0m,y0n,y0o,y0p,y0q,y0r,y0s,y0t,y0u,y0v,y0w,y0x,y0y,y0z,y10,y11,y12,y13,y14,y15,y16,y17,y18,y19,y1a,y1b,y1c,y1d,y1e,y1f,y1g,y1h,y1i,y1j,y1k,y1l,y1m,y1n,y1o,y1p,y1q,y1r,retO,retL,retV,z6i,allV,allP,z6j,z6m,z6n,z6t,z6u,z6v,binV,eqV,unV,oOpt,reduceIte,reduceCtorEq,Nat.reduceEqDiff,Nat.reduceAdd,Nat.reduceMul,Nat.reduceLT,Nat.reduceSub,Int.reduceLT,Int.reduceLE,Int.reduceEq,Int.reduceNe,Int.reduceSub,Int.reduceAdd,Int.reduceMul,Int.reduceBEq,Int.reduceBNe,Int.reduceGT,Int.reduceGE,Nat.reduceGT,Int.reduceToNat,Int.reduceNeg,Nat.reduceLeDiff,Nat.reduceBEq,Nat.reduceBneDiff,Value.cells, c0, hi1]
      unfold ir_bandboxref19_Ring_Put_20
      by_cases gk : L[i].1 = k
      · have hg := getK_at hlt h0 gk
        rw [hg]
        generalize L[i] = x at ci cw l32 gk
        have k1 := leaves_u8 x.2
        rw [l32] at k1
        have k2 := leaves_u8 wd
        rw [hw] at k2
        by_cases e : x.2 = wd
        · have k3 : leavesEq (wd.map u8V) (wd.map u8V) = true := leavesEq_u8 _
          rw [e] at cw k1
          simp -implicitDefEqProofs only [zB1,zB2,zB3,zB4,zB5,zB6,zB7,zB8,zB9,zB10,zB11,y00,y01,y02,y03,y04,y05,y06,y07,y08,y09,y0a,y0b,y0c,y0d,y0e,y0f,y0g,y0h,y0i,y0j,y0k,y0l,y0m,y0n,y0o,y0p,y0q,y0r,y0s,y0t,y0u,y0v,y0w,y0x,y0y,y0z,y10,y11,y12,y13,y14,y15,y16,y17,y18,y19,y1a,y1b,y1c,y1d,y1e,y1f,y1g,y1h,y1i,y1j,y1k,y1l,y1m,y1n,y1o,y1p,y1q,y1r,retO,retL,retV,z6i,allV,allP,z6j,z6m,z6n,z6t,z6u,z6v,binV,eqV,unV,oOpt,reduceIte,reduceCtorEq,Nat.reduceEqDiff,Nat.reduceAdd,Nat.reduceMul,Nat.reduceLT,Nat.reduceSub,Int.reduceLT,Int.reduceLE,Int.reduceEq,Int.reduceNe,Int.reduceSub,Int.reduceAdd,Int.reduceMul,Int.reduceBEq,Int.reduceBNe,Int.reduceGT,Int.reduceGE,Nat.reduceGT,Int.reduceToNat,Int.reduceNeg,Nat.reduceLeDiff,Nat.reduceBEq,Nat.reduceBneDiff,Value.cells, c0, hi1, hi2, Int.toNat_natCast, ci, gk, cw, c50, k1, k2, k3, e, implies_true, List.mem_cons, List.not_mem_nil, List.mem_singleton, or_false, forall_eq, forall_eq_or_imp, and_self]
          exact .inl le5
        · have k3 : leavesEq (x.2.map u8V) (wd.map u8V) = false := by rw [leavesEq_dec x.2 wd (by rw [l32, hw])]; simp [e]
          simp -implicitDefEqProofs only [zB1,zB2,zB3,zB4,zB5,zB6,zB7,zB8,zB9,zB10,zB11,y00,y01,y02,y03,y04,y05,y06,y07,y08,y09,y0a,y0b,y0c,y0d,y0e,y0f,y0g,y0h,y0i,y0j,y0k,y0l,y0m,y0n,y0o,y0p,y0q,y0r,y0s,y0t,y0u,y0v,y0w,y0x,y0y,y0z,y10,y11,y12,y13,y14,y15,y16,y17,y18,y19,y1a,y1b,y1c,y1d,y1e,y1f,y1g,y1h,y1i,y1j,y1k,y1l,y1m,y1n,y1o,y1p,y1q,y1r,retO,retL,retV,z6i,allV,allP,z6j,z6m,z6n,z6t,z6u,z6v,binV,eqV,unV,oOpt,reduceIte,reduceCtorEq,Nat.reduceEqDiff,Nat.reduceAdd,Nat.reduceMul,Nat.reduceLT,Nat.reduceSub,Int.reduceLT,Int.reduceLE,Int.reduceEq,Int.reduceNe,Int.reduceSub,Int.reduceAdd,Int.reduceMul,Int.reduceBEq,Int.reduceBNe,Int.reduceGT,Int.reduceGE,Nat.reduceGT,Int.reduceToNat,Int.reduceNeg,Nat.reduceLeDiff,Nat.reduceBEq,Nat.reduceBneDiff,Value.cells, c0, hi1, hi2, Int.toNat_natCast, ci, gk, cw, c50, k1, k2, k3, e, implies_true, List.mem_cons, List.not_mem_nil, List.mem_singleton, or_false, forall_eq, forall_eq_or_imp, and_self]
          exact .inl le5
      · simp -implicitDefEqProofs only [zB1,zB2,zB3,zB4,zB5,zB6,zB7,zB8,zB9,zB10,zB11,y00,y01,y02,y03,y04,y05,y06,y07,y08,y09,y0a,y0b,y0c,y0d,y0e,y0f,y0g,y0h,y0i,y0j,y0k,y0l,y0m,y0n,y0o,y0p,y0q,y0r,y0s,y0t,y0u,y0v,y0w,y0x,y0y,y0z,y10,y11,y12,y13,y14,y15,y16,y17,y18,y19,y1a,y1b,y1c,y1d,y1e,y1f,y1g,y1h,y1i,y1j,y1k,y1l,y1m,y1n,y1o,y1p,y1q,y1r,retO,retL,retV,z6i,allV,allP,z6j,z6m,z6n,z6t,z6u,z6v,binV,eqV,unV,oOpt,reduceIte,reduceCtorEq,Nat.reduceEqDiff,Nat.reduceAdd,Nat.reduceMul,Nat.reduceLT,Nat.reduceSub,Int.reduceLT,Int.reduceLE,Int.reduceEq,Int.reduceNe,Int.reduceSub,Int.reduceAdd,Int.reduceMul,Int.reduceBEq,Int.reduceBNe,Int.reduceGT,Int.reduceGE,Nat.reduceGT,Int.reduceToNat,Int.reduceNeg,Nat.reduceLeDiff,Nat.reduceBEq,Nat.reduceBneDiff,Value.cells, c0, hi1, hi2, Int.toNat_natCast, ci, gk, w1]
        refine ⟨_, ?_, i + 1, rfl, by omega, rfl, ?_⟩
        · omega
        · rw [et]
          intro y hy
          rcases List.mem_append.1 hy with hy | hy
          · exact h0 y hy
          · rw [List.mem_singleton] at hy; subst hy; exact gk
    · have hi1 : ¬ (i : Int) < L.length := by omega
      have e : i = L.length := by omega
      subst e
      rw [List.take_length] at h0
      have hg := getK_no h0
      rw [hg]
      simp -implicitDefEqProofs only [zB1,zB2,zB3,zB4,zB5,zB6,zB7,zB8,zB9,zB10,zB11,y00,y01,y02,y03,y04,y05,y06,y07,y08,y09,y0a,y0b,y0c,y0d,y0e,y0f,y0g,y0h,y0i,y0j,y0k,y0l,y0m,y0n,y0o,y0p,y0q,y0r,y0s,y0t,y0u,y0v,y0w,y0x,y0y,y0z,y10,y11,y12,y13,y14,y15,y16,y17,y18,y19,y1a,y1b,y1c,y1d,y1e,y1f,y1g,y1h,y1i,y1j,y1k,y1l,y1m,y1n,y1o,y1p,y1q,y1r,retO,retL,retV,z6i,allV,allP,z6j,z6m,z6n,z6t,z6u,z6v,binV,eqV,unV,oOpt,reduceIte,reduceCtorEq,Nat.reduceEqDiff,Nat.reduceAdd,Nat.reduceMul,Nat.reduceLT,Nat.reduceSub,Int.reduceLT,Int.reduceLE,Int.reduceEq,Int.reduceNe,Int.reduceSub,Int.reduceAdd,Int.reduceMul,Int.reduceBEq,Int.reduceBNe,Int.reduceGT,Int.reduceGE,Nat.reduceGT,Int.reduceToNat,Int.reduceNeg,Nat.reduceLeDiff,Nat.reduceBEq,Nat.reduceBneDiff,Value.cells, c0, hi1]
      unfold ir_bandboxref19_Ring_Put_40
      by_cases g5 : 500 ≤ L.length
      · have g5' : (500 : Int) ≤ L.length := by omega
        simp -implicitDefEqProofs only [zB1,zB2,zB3,zB4,zB5,zB6,zB7,zB8,zB9,zB10,zB11,y00,y01,y02,y03,y04,y05,y06,y07,y08,y09,y0a,y0b,y0c,y0d,y0e,y0f,y0g,y0h,y0i,y0j,y0k,y0l,y0m,y0n,y0o,y0p,y0q,y0r,y0s,y0t,y0u,y0v,y0w,y0x,y0y,y0z,y10,y11,y12,y13,y14,y15,y16,y17,y18,y19,y1a,y1b,y1c,y1d,y1e,y1f,y1g,y1h,y1i,y1j,y1k,y1l,y1m,y1n,y1o,y1p,y1q,y1r,retO,retL,retV,z6i,allV,allP,z6j,z6m,z6n,z6t,z6u,z6v,binV,eqV,unV,oOpt,reduceIte,reduceCtorEq,Nat.reduceEqDiff,Nat.reduceAdd,Nat.reduceMul,Nat.reduceLT,Nat.reduceSub,Int.reduceLT,Int.reduceLE,Int.reduceEq,Int.reduceNe,Int.reduceSub,Int.reduceAdd,Int.reduceMul,Int.reduceBEq,Int.reduceBNe,Int.reduceGT,Int.reduceGE,Nat.reduceGT,Int.reduceToNat,Int.reduceNeg,Nat.reduceLeDiff,Nat.reduceBEq,Nat.reduceBneDiff,Value.cells, c0, g5', g5]
        exact .inl le5
      · have g5' : ¬ (500 : Int) ≤ L.length := by omega
        simp -implicitDefEqProofs only [zB1,zB2,zB3,zB4,zB5,zB6,zB7,zB8,zB9,zB10,zB11,y00,y01,y02,y03,y04,y05,y06,y07,y08,y09,y0a,y0b,y0c,y0d,y0e,y0f,y0g,y0h,y0i,y0j,y0k,y0l,y0m,y0n,y0o,y0p,y0q,y0r,y0s,y0t,y0u,y0v,y0w,y0x,y0y,y0z,y10,y11,y12,y13,y14,y15,y16,y17,y18,y19,y1a,y1b,y1c,y1d,y1e,y1f,y1g,y1h,y1i,y1j,y1k,y1l,y1m,y1n,y1o,y1p,y1q,y1r,retO,retL,retV,z6i,allV,allP,z6j,z6m,z6n,z6t,z6u,z6v,binV,eqV,unV,oOpt,reduceIte,reduceCtorEq,Nat.reduceEqDiff,Nat.reduceAdd,Nat.reduceMul,Nat.reduceLT,Nat.reduceSub,Int.reduceLT,Int.reduceLE,Int.reduceEq,Int.reduceNe,Int.reduceSub,Int.reduceAdd,Int.reduceMul,Int.reduceBEq,Int.reduceBNe,Int.reduceGT,Int.reduceGE,Nat.reduceGT,Int.reduceToNat,Int.reduceNeg,Nat.reduceLeDiff,Nat.reduceBEq,Nat.reduceBneDiff,Value.cells, c0, g5', g5]
        unfold ir_bandboxref19_Ring_Put_47
        simp -implicitDefEqProofs only [zB1,zB2,zB3,zB4,zB5,zB6,zB7,zB8,zB9,zB10,zB11,y00,y01,y02,y03,y04,y05,y06,y07,y08,y09,y0a,y0b,y0c,y0d,y0e,y0f,y0g,y0h,y0i,y0j,y0k,y0l,y0m,y0n,y0o,y0p,y0q,y0r,y0s,y0t,y0u,y0v,y0w,y0x,y0y,y0z,y10,y11,y12,y13,y14,y15,y16,y17,y18,y19,y1a,y1b,y1c,y1d,y1e,y1f,y1g,y1h,y1i,y1j,y1k,y1l,y1m,y1n,y1o,y1p,y1q,y1r,retO,retL,retV,z6i,allV,allP,z6j,z6m,z6n,z6t,z6u,z6v,binV,eqV,unV,oOpt,reduceIte,reduceCtorEq,Nat.reduceEqDiff,Nat.reduceAdd,Nat.reduceMul,Nat.reduceLT,Nat.reduceSub,Int.reduceLT,Int.reduceLE,Int.reduceEq,Int.reduceNe,Int.reduceSub,Int.reduceAdd,Int.reduceMul,Int.reduceBEq,Int.reduceBNe,Int.reduceGT,Int.reduceGE,Nat.reduceGT,Int.reduceToNat,Int.reduceNeg,Nat.reduceLeDiff,Nat.reduceBEq,Nat.reduceBneDiff,Value.cells, List.flatten_nil, List.replicate_zero]
        intro b6 hb6
        try simp -implicitDefEqProofs only [zB1,zB2,zB3,zB4,zB5,zB6,zB7,zB8,zB9,zB10,zB11,y00,y01,y02,y03,y04,y05,y06,y07,y08,y09,y0a,y0b,y0c,y0d,y0e,y0f,y0g,y0h,y0i,y0j,y0k,y0l,y0m,y0n,y0o,y0p,y0q,y0r,y0s,y0t,y0u,y0v,y0w,y0x,y0y,y0z,y10,y11,y12,y13,y14,y15,y16,y17,y18,y19,y1a,y1b,y1c,y1d,y1e,y1f,y1g,y1h,y1i,y1j,y1k,y1l,y1m,y1n,y1o,y1p,y1q,y1r,retO,retL,retV,z6i,allV,allP,z6j,z6m,z6n,z6t,z6u,z6v,binV,eqV,unV,oOpt,reduceIte,reduceCtorEq,Nat.reduceEqDiff,Nat.reduceAdd,Nat.reduceMul,Nat.reduceLT,Nat.reduceSub,Int.reduceLT,Int.reduceLE,Int.reduceEq,Int.reduceNe,Int.reduceSub,Int.reduceAdd,Int.reduceMul,Int.reduceBEq,Int.reduceBNe,Int.reduceGT,Int.reduceGE,Nat.reduceGT,Int.reduceToNat,Int.reduceNeg,Nat.reduceLeDiff,Nat.reduceBEq,Nat.reduceBneDiff,Value.cells]
        have le6 := Heap.le_set (Heap.le_refl G) hb6 (.own 0 [] 0)
        simp -implicitDefEqProofs only [zB1,zB2,zB3,zB4,zB5,zB6,zB7,zB8,zB9,zB10,zB11,y00,y01,y02,y03,y04,y05,y06,y07,y08,y09,y0a,y0b,y0c,y0d,y0e,y0f,y0g,y0h,y0i,y0j,y0k,y0l,y0m,y0n,y0o,y0p,y0q,y0r,y0s,y0t,y0u,y0v,y0w,y0x,y0y,y0z,y10,y11,y12,y13,y14,y15,y16,y17,y18,y19,y1a,y1b,y1c,y1d,y1e,y1f,y1g,y1h,y1i,y1j,y1k,y1l,y1m,y1n,y1o,y1p,y1q,y1r,retO,retL,retV,z6i,allV,allP,z6j,z6m,z6n,z6t,z6u,z6v,binV,eqV,unV,oOpt,reduceIte,reduceCtorEq,Nat.reduceEqDiff,Nat.reduceAdd,Nat.reduceMul,Nat.reduceLT,Nat.reduceSub,Int.reduceLT,Int.reduceLE,Int.reduceEq,Int.reduceNe,Int.reduceSub,Int.reduceAdd,Int.reduceMul,Int.reduceBEq,Int.reduceBNe,Int.reduceGT,Int.reduceGE,Nat.reduceGT,Int.reduceToNat,Int.reduceNeg,Nat.reduceLeDiff,Nat.reduceBEq,Nat.reduceBneDiff,Value.cells, c0]
        refine appendP_ow (n := 0) (cells := []) (m := L.length) (news := L.flatMap cellK) le6 (by omega) (Ow.new (c := 0) (sz := 0) (Heap.le_refl _) hb6 rfl (by omega) (by omega)) (s1.le le6) (cellK_ones L) (by omega) (by omega) ?_
        intro v1 G1 o1 le7
        rw [Nat.zero_add, List.nil_append] at o1
        obtain ⟨vb1, vc1, rfl⟩ := Sl.shape o1.sl
        have c51 := c5 G1 le7
        have e33 : (List.take 1 (Value.int .i64 k :: List.replicate 32 (Value.int .u8 0))) = [Value.int .i64 k] := rfl
        have d33 : List.drop 33 (Value.int .i64 k :: List.replicate 32 (Value.int .u8 0)) = [] := by rw [List.drop_eq_nil_of_le]; simp
        simp -implicitDefEqProofs only [zB1,zB2,zB3,zB4,zB5,zB6,zB7,zB8,zB9,zB10,zB11,y00,y01,y02,y03,y04,y05,y06,y07,y08,y09,y0a,y0b,y0c,y0d,y0e,y0f,y0g,y0h,y0i,y0j,y0k,y0l,y0m,y0n,y0o,y0p,y0q,y0r,y0s,y0t,y0u,y0v,y0w,y0x,y0y,y0z,y10,y11,y12,y13,y14,y15,y16,y17,y18,y19,y1a,y1b,y1c,y1d,y1e,y1f,y1g,y1h,y1i,y1j,y1k,y1l,y1m,y1n,y1o,y1p,y1q,y1r,retO,retL,retV,z6i,allV,allP,z6j,z6m,z6n,z6t,z6u,z6v,binV,eqV,unV,oOpt,reduceIte,reduceCtorEq,Nat.reduceEqDiff,Nat.reduceAdd,Nat.reduceMul,Nat.reduceLT,Nat.reduceSub,Int.reduceLT,Int.reduceLE,Int.reduceEq,Int.reduceNe,Int.reduceSub,Int.reduceAdd,Int.reduceMul,Int.reduceBEq,Int.reduceBNe,Int.reduceGT,Int.reduceGE,Nat.reduceGT,Int.reduceToNat,Int.reduceNeg,Nat.reduceLeDiff,Nat.reduceBEq,Nat.reduceBneDiff,Value.cells, c50, c51, wl, List.length_replicate, List.drop_replicate, List.replicate_zero, List.replicate_one, List.flatten_singleton, implies_true, List.mem_cons, List.not_mem_nil, List.mem_singleton, or_false, forall_eq, forall_eq_or_imp, and_self]
        intro b7 hb7
        have ecell : cellK (k, wd) = Value.int .i64 k :: wd.map u8V := by unfold cellK; rw [pad32_eq hw]
        rw [← ecell]
        have le8 := Heap.le_set (Heap.le_refl G1) hb7 (.own 0 (cellK (k, wd)) 33)
        have sx : Sl (G1.set b7 (.own 0 (cellK (k, wd)) 33)) 33 (.slice (some ⟨b7, 0, none⟩) 1 1) 1 (cellK (k, wd)) := Sl.lit (by rw [cellK_len])
        have hone : (cellK (k, wd)).all one = true := by have := cellK_ones [(k, wd)]; simpa using this
        refine appendP_ow (m := 1) (Heap.le_trans le7 le8) (by omega) (o1.le le8) sx hone (by omega) (by omega) ?_
        intro v3 G3 o3 le9
        obtain ⟨vb3, vc3, rfl⟩ := Sl.shape o3.sl
        have q3 := le9 _ _ (le5 _ _ q)
        have st : storeV G3 1 (.pointer (some ⟨w, 0, none⟩)) (.slice vb3 (L.length + 1) vc3) = some (G3.set w (.own 0 [.slice vb3 (L.length + 1) vc3] 1)) := storeV_one_at q3 rfl (by simp) (by simp)
        simp -implicitDefEqProofs only [zB1,zB2,zB3,zB4,zB5,zB6,zB7,zB8,zB9,zB10,zB11,y00,y01,y02,y03,y04,y05,y06,y07,y08,y09,y0a,y0b,y0c,y0d,y0e,y0f,y0g,y0h,y0i,y0j,y0k,y0l,y0m,y0n,y0o,y0p,y0q,y0r,y0s,y0t,y0u,y0v,y0w,y0x,y0y,y0z,y10,y11,y12,y13,y14,y15,y16,y17,y18,y19,y1a,y1b,y1c,y1d,y1e,y1f,y1g,y1h,y1i,y1j,y1k,y1l,y1m,y1n,y1o,y1p,y1q,y1r,retO,retL,retV,z6i,allV,allP,z6j,z6m,z6n,z6t,z6u,z6v,binV,eqV,unV,oOpt,reduceIte,reduceCtorEq,Nat.reduceEqDiff,Nat.reduceAdd,Nat.reduceMul,Nat.reduceLT,Nat.reduceSub,Int.reduceLT,Int.reduceLE,Int.reduceEq,Int.reduceNe,Int.reduceSub,Int.reduceAdd,Int.reduceMul,Int.reduceBEq,Int.reduceBNe,Int.reduceGT,Int.reduceGE,Nat.reduceGT,Int.reduceToNat,Int.reduceNeg,Nat.reduceLeDiff,Nat.reduceBEq,Nat.reduceBneDiff,Value.cells, st, implies_true]
        refine .inr ⟨_, Heap.set_self _ _ _, ?_, ?_⟩
        · have e1 : (L ++ [(k, wd)]).length = L.length + 1 := by simp
          have e2 : (L ++ [(k, wd)]).flatMap cellK = L.flatMap cellK ++ cellK (k, wd) := by simp
          rw [e1, e2]
          have o4 := o3.since le5
          rcases o4 with s0 | ⟨b, o, c', sz, st', pre, rest, p1, p2, p3, p4, p5⟩
          · exact .inl s0
          · refine .inr ⟨b, o, c', sz, st', pre, rest, p1, p2, p3, ?_, p5⟩
            rw [Heap.set_ne (by intro e; subst e; rw [q] at p3; cases p3)]
            exact p4
        · intro c x hc hx
          rw [Heap.set_ne hc]
          exact le9 _ _ (le5 _ _ hx)
  · unfold putF
    rw [if_neg g]
    simp -implicitDefEqProofs only [zB1,zB2,zB3,zB4,zB5,zB6,zB7,zB8,zB9,zB10,zB11,y00,y01,y02,y03,y04,y05,y06,y07,y08,y09,y0a,y0b,y0c,y0d,y0e,y0f,y0g,y0h,y0i,y0j,y0k,y0l,y0m,y0n,y0o,y0p,y0q,y0r,y0s,y0t,y0u,y0v,y0w,y0x,y0y,y0z,y10,y11,y12,y13,y14,y15,y16,y17,y18,y19,y1a,y1b,y1c,y1d,y1e,y1f,y1g,y1h,y1i,y1j,y1k,y1l,y1m,y1n,y1o,y1p,y1q,y1r,retO,retL,retV,z6i,allV,allP,z6j,z6m,z6n,z6t,z6u,z6v,binV,eqV,unV,oOpt,reduceIte,reduceCtorEq,Nat.reduceEqDiff,Nat.reduceAdd,Nat.reduceMul,Nat.reduceLT,Nat.reduceSub,Int.reduceLT,Int.reduceLE,Int.reduceEq,Int.reduceNe,Int.reduceSub,Int.reduceAdd,Int.reduceMul,Int.reduceBEq,Int.reduceBNe,Int.reduceGT,Int.reduceGE,Nat.reduceGT,Int.reduceToNat,Int.reduceNeg,Nat.reduceLeDiff,Nat.reduceBEq,Nat.reduceBneDiff,Value.cells, g]
    exact .inl le5
end Go.Bb
/- Contracts: bytes. -/
namespace Go.Bb
set_option linter.unusedSimpArgs false
set_option linter.unusedVariables false
set_option maxRecDepth 20000

/-! ### numbers, the highest byte first -/
def fromBigF (l : List UInt8) : U64 := l.foldl (fun v b => v <<< 8 ||| BitVec.ofNat 64 b.toNat) 0
theorem octet_FromBig_c (E : EnvT tab) (h : Heap) {v : Value} (l : List UInt8) (hl : l.length ≤ 8) (s : SlB h v l) : ACallN E.toEnv n_octet_FromBig [v] h fun r h' => h' = h ∧ r = .tuple #[u64V (fromBigF l), .int .i64 0] := by
  obtain ⟨base, c, rfl⟩ := Sl.shape s
  refine acall h_octet_FromBig ir_octet_FromBig rfl rfl (wpA_sound ?_)
  unfold ir_octet_FromBig
  have g1 : ¬ (8 : Int) < l.length := by omega
  simp -implicitDefEqProofs only [zB1,zB2,zB3,zB4,zB5,zB6,zB7,zB8,zB9,zB10,zB11,y00,y01,y02,y03,y04,y05,y06,y07,y08,y09,y0a,y0b,y0c,y0d,y0e,y0f,y0g,y0h,y0i,y0j,y0k,y0l,y0m,y0n,y0o,y0p,y0q,y0r,y0s,y0t,y0u,y0v,y0w,y0x,y0y,y0z,y10,y11,y12,y13,y14,y15,y16,y17,y18,y19,y1a,y1b,y1c,y1d,y1e,y1f,y1g,y1h,y1i,y1j,y1k,y1l,y1m,y1n,y1o,y1p,y1q,y1r,retO,retL,retV,z6i,allV,allP,z6j,z6m,z6n,z6t,z6u,z6v,binV,eqV,unV,oOpt,reduceIte,reduceCtorEq,Nat.reduceEqDiff,Nat.reduceAdd,Nat.reduceMul,Nat.reduceLT,Nat.reduceSub,Int.reduceLT,Int.reduceLE,Int.reduceEq,Int.reduceNe,Int.reduceSub,Int.reduceAdd,Int.reduceMul,Int.reduceBEq,Int.reduceBNe,Int.reduceGT,Int.reduceGE,Nat.reduceGT,Int.reduceToNat,Int.reduceNeg,Nat.reduceLeDiff,Nat.reduceBEq,Nat.reduceBneDiff,Value.cells, g1]
  refine wp_loop' (fun m t H => H = h ∧ ∃ (j : Nat), t = tl [(4, .int .u64 (fromBigF (l.take j)).toNat), (10, .slice base l.length c), (11, .int .i64 l.length), (12, .int .i64 j)] ∧ j ≤ l.length ∧ m = l.length - j) l.length
    ⟨rfl, 0, rfl, by omega, by omega⟩ ?_
  rintro m t H ⟨rfl, j, rfl, hj, rfl⟩
  by_cases hlt : j < l.length
  · obtain ⟨b, o, c', hv, hc, hcl⟩ := Sl.byte_at s j hlt
    simp only [Value.slice.injEq, true_and] at hv
    obtain ⟨rfl, rfl⟩ := hv
    have hz := hcl H (Heap.le_refl _)
    unfold u8V at hz
    have e1 : (j : Int) < l.length := by omega
    have e2 : (0 : Int) ≤ j := by omega
    simp -implicitDefEqProofs only [zB1,zB2,zB3,zB4,zB5,zB6,zB7,zB8,zB9,zB10,zB11,y00,y01,y02,y03,y04,y05,y06,y07,y08,y09,y0a,y0b,y0c,y0d,y0e,y0f,y0g,y0h,y0i,y0j,y0k,y0l,y0m,y0n,y0o,y0p,y0q,y0r,y0s,y0t,y0u,y0v,y0w,y0x,y0y,y0z,y10,y11,y12,y13,y14,y15,y16,y17,y18,y19,y1a,y1b,y1c,y1d,y1e,y1f,y1g,y1h,y1i,y1j,y1k,y1l,y1m,y1n,y1o,y1p,y1q,y1r,retO,retL,retV,z6i,allV,allP,z6j,z6m,z6n,z6t,z6u,z6v,binV,eqV,unV,oOpt,reduceIte,reduceCtorEq,Nat.reduceEqDiff,Nat.reduceAdd,Nat.reduceMul,Nat.reduceLT,Nat.reduceSub,Int.reduceLT,Int.reduceLE,Int.reduceEq,Int.reduceNe,Int.reduceSub,Int.reduceAdd,Int.reduceMul,Int.reduceBEq,Int.reduceBNe,Int.reduceGT,Int.reduceGE,Nat.reduceGT,Int.reduceToNat,Int.reduceNeg,Nat.reduceLeDiff,Nat.reduceBEq,Nat.reduceBneDiff,Value.cells, e1, e2, hz, Int.toNat_natCast, u64_shl, u8_u64, u64_or, wrapN (n := j) (by omega)]
    refine ⟨_, ?_, j + 1, ?_, hlt, rfl⟩
    · omega
    · rw [List.take_succ_eq_append_getElem hlt]
      simp only [fromBigF, List.foldl_append, List.foldl_cons, List.foldl_nil]
  · have e1 : ¬ (j : Int) < l.length := by omega
    have : j = l.length := by omega
    subst this
    rw [List.take_length]
    simp -implicitDefEqProofs only [zB1,zB2,zB3,zB4,zB5,zB6,zB7,zB8,zB9,zB10,zB11,y00,y01,y02,y03,y04,y05,y06,y07,y08,y09,y0a,y0b,y0c,y0d,y0e,y0f,y0g,y0h,y0i,y0j,y0k,y0l,y0m,y0n,y0o,y0p,y0q,y0r,y0s,y0t,y0u,y0v,y0w,y0x,y0y,y0z,y10,y11,y12,y13,y14,y15,y16,y17,y18,y19,y1a,y1b,y1c,y1d,y1e,y1f,y1g,y1h,y1i,y1j,y1k,y1l,y1m,y1n,y1o,y1p,y1q,y1r,retO,retL,retV,z6i,allV,allP,z6j,z6m,z6n,z6t,z6u,z6v,binV,eqV,unV,oOpt,reduceIte,reduceCtorEq,Nat.reduceEqDiff,Nat.reduceAdd,Nat.reduceMul,Nat.reduceLT,Nat.reduceSub,Int.reduceLT,Int.reduceLE,Int.reduceEq,Int.reduceNe,Int.reduceSub,Int.reduceAdd,Int.reduceMul,Int.reduceBEq,Int.reduceBNe,Int.reduceGT,Int.reduceGE,Nat.reduceGT,Int.reduceToNat,Int.reduceNeg,Nat.reduceLeDiff,Nat.reduceBEq,Nat.reduceBneDiff,Value.cells, e1]
    rfl

end Go.Bb
/- Contracts: numbers written, the highest byte first. -/
namespace Go.Bb
set_option linter.unusedSimpArgs false
set_option linter.unusedVariables false
set_option maxRecDepth 20000

end Go.Bb
/- Sums of bytes, in plain words. -/
namespace Go.Bb
set_option linter.unusedSimpArgs false
set_option linter.unusedVariables false

/-! ### rows of words, as functions of the place -/
def rowU (f : Nat → U32) (n : Nat) : List Value := (List.range n).map fun j => .int .u32 (f j).toNat
theorem rowU_len (f : Nat → U32) (n : Nat) : (rowU f n).length = n := by simp [rowU]
theorem rowU_get (f : Nat → U32) {n j : Nat} (h : j < (rowU f n).length) : (rowU f n)[j] = .int .u32 (f j).toNat := by simp [rowU]
def updU (f : Nat → U32) (i : Nat) (z : U32) : Nat → U32 := fun j => if j = i then z else f j
theorem rowU_set (f : Nat → U32) (n i : Nat) (z : U32) : (rowU f n).set i (.int .u32 z.toNat) = rowU (updU f i z) n := by
  apply List.ext_getElem
  · simp [rowU]
  · intro j h1 h2
    rw [List.getElem_set, rowU_get, rowU_get]
    unfold updU
    by_cases e : i = j
    · subst e; simp
    · rw [if_neg e, if_neg (Ne.symm e)]
theorem rowU_new (n : Nat) : List.replicate n (Value.int .u32 0) = rowU (fun _ => 0) n := by
  apply List.ext_getElem
  · simp [rowU]
  · intro j h1 h2; rw [rowU_get]; simp
theorem rowU_at {H : Heap} {b n j sz : Nat} {f : Nat → U32} (h : H b = some (.own 0 (rowU f n) sz)) (hj : j < n) : hcell H ⟨b, j, none⟩ = some (.int .u32 (f j).toNat) := by
  rw [hcell_at h (by rw [rowU_len]; exact hj), rowU_get]
theorem rowU_store {H : Heap} {b n j : Nat} {f : Nat → U32} {z : U32} (h : H b = some (.own 0 (rowU f n) n)) (hj : j < n) : storeV H 1 (.pointer (some ⟨b, j, none⟩)) (.int .u32 z.toNat) = some (H.set b (.own 0 (rowU (updU f j z) n) n)) := by
  rw [storeV_one_at h rfl (by rw [rowU_len]; exact hj) (by rw [rowU_len]; omega), rowU_set]
theorem rowU_one (f : Nat → U32) (n : Nat) : (rowU f n).all one = true := by simp [rowU, one]
theorem rowU_congr {f g : Nat → U32} {n : Nat} (h : ∀ j, j < n → f j = g j) : rowU f n = rowU g n := by
  unfold rowU
  apply List.map_congr_left
  intro j hj
  rw [h j (List.mem_range.1 hj)]

/-! ### the sum -/
def turnF (x : U32) (n : Nat) : U32 := x <<< (32 - n) ||| x >>> n
def schedX (b : List UInt8) (w : Nat → U32) (i : Nat) : U32 :=
  if i < 16 then (fromBigF ((b.drop (4 * i)).take 4)).setWidth 32
  else w (i - 16) + (turnF (w (i - 15)) 7 ^^^ turnF (w (i - 15)) 18 ^^^ w (i - 15) >>> 3) + w (i - 7) + (turnF (w (i - 2)) 17 ^^^ turnF (w (i - 2)) 19 ^^^ w (i - 2) >>> 10)
def schedW (b : List UInt8) : Nat → Nat → U32
  | 0 => fun _ => 0
  | i + 1 => updU (schedW b i) i (schedX b (schedW b i) i)
def mixT (k w v : Nat → U32) (i : Nat) : U32 := v 7 + (turnF (v 4) 6 ^^^ turnF (v 4) 11 ^^^ turnF (v 4) 25) + ((v 4 &&& v 5) ^^^ (~~~(v 4) &&& v 6)) + k i + w i
def mixR (v : Nat → U32) : U32 := turnF (v 0) 2 ^^^ turnF (v 0) 13 ^^^ turnF (v 0) 22
def mixM (v : Nat → U32) : U32 := (v 0 &&& v 1) ^^^ (v 0 &&& v 2) ^^^ (v 1 &&& v 2)
def mixX (k w v : Nat → U32) (i : Nat) : Nat → U32
  | 0 => mixT k w v i + mixR v + mixM v
  | 1 => v 0
  | 2 => v 1
  | 3 => v 2
  | 4 => v 3 + mixT k w v i
  | 5 => v 4
  | 6 => v 5
  | 7 => v 6
  | _ => 0
def mixV (k w h : Nat → U32) : Nat → Nat → U32
  | 0 => h
  | i + 1 => mixX k w (mixV k w h i) i
def mixF (k h : Nat → U32) (b : List UInt8) : Nat → U32 := fun j => h j + mixV k (schedW b 64) h 64 j
theorem mixX_row (k w v : Nat → U32) (i : Nat) : rowU (mixX k w v i) 8 = [.int .u32 (mixT k w v i + mixR v + mixM v).toNat, .int .u32 (v 0).toNat, .int .u32 (v 1).toNat, .int .u32 (v 2).toNat, .int .u32 (v 3 + mixT k w v i).toNat, .int .u32 (v 4).toNat, .int .u32 (v 5).toNat, .int .u32 (v 6).toNat] := rfl
end Go.Bb
/- Contracts: sums of bytes: turns, the schedule. -/
namespace Go.Bb
set_option linter.unusedSimpArgs false
set_option linter.unusedVariables false
set_option maxRecDepth 20000

theorem rot_m : ∀ n : Nat, n < 32 → 1 ≤ n → (BitVec.ofInt 64 (-(n : Int)) &&& BitVec.ofNat 64 31).toNat = 32 - n := by decide
theorem RotateLeft32_c (E : EnvT tab) (h : Heap) (x : U32) (n : Nat) (h1 : 1 ≤ n) (h2 : n ≤ 31) : ACallN E.toEnv n_math_bits_RotateLeft32 [.int .u32 x.toNat, .int .i64 (-(n : Int))] h fun r h' => h' = h ∧ r = .int .u32 (turnF x n).toNat := by
  refine acall h_math_bits_RotateLeft32 ir_math_bits_RotateLeft32 rfl rfl (wpA_sound ?_)
  unfold ir_math_bits_RotateLeft32
  have w1 : IntKind.u64.wrap (-(n : Int)) = ((BitVec.ofInt 64 (-(n : Int))).toNat : Int) := wrap_u64 _
  have w2 : IntKind.u64.wrap ((BitVec.ofInt IntKind.u64.bits ((BitVec.ofInt 64 (-(n : Int))).toNat : Int) &&& BitVec.ofInt IntKind.u64.bits 31).toNat : Int) = ((32 - n : Nat) : Int) := by
    have := u64_and (BitVec.ofInt 64 (-(n : Int))) (BitVec.ofNat 64 31)
    rw [rot_m n (by omega) h1] at this
    exact this
  have w3 : IntKind.u64.wrap (32 - ((32 - n : Nat) : Int)) = (n : Int) := by
    have : (32 - ((32 - n : Nat) : Int)) = n := by omega
    rw [this, wrap_u64, ofInt_nat]; simp; omega
  have n1 : ¬ (((32 - n : Nat) : Int) < 0) := by omega
  have n2 : ¬ ((n : Int) < 0) := by omega
  have s1 : IntKind.u32.wrap ((x.toNat : Int) * 2 ^ (min (32 - n) IntKind.u32.bits)) = ((x <<< (32 - n)).toNat : Int) := u32_shl x (32 - n) (by omega)
  have s2 : ((x.toNat : Int).fdiv (2 ^ (min n IntKind.u32.bits))) = ((x >>> n).toNat : Int) := u32_shr x n (by omega)
  simp -implicitDefEqProofs only [zB1,zB2,zB3,zB4,zB5,zB6,zB7,zB8,zB9,zB10,zB11,y00,y01,y02,y03,y04,y05,y06,y07,y08,y09,y0a,y0b,y0c,y0d,y0e,y0f,y0g,y0h,y0i,y0j,y0k,y0l,y0m,y0n,y0o,y0p,y0q,y0r,y0s,y0t,y0u,y0v,y0w,y0x,y0y,y0z,y10,y11,y12,y13,y14,y15,y16,y17,y18,y19,y1a,y1b,y1c,y1d,y1e,y1f,y1g,y1h,y1i,y1j,y1k,y1l,y1m,y1n,y1o,y1p,y1q,y1r,retO,retL,retV,z6i,allV,allP,z6j,z6m,z6n,z6t,z6u,z6v,binV,eqV,unV,oOpt,reduceIte,reduceCtorEq,Nat.reduceEqDiff,Nat.reduceAdd,Nat.reduceMul,Nat.reduceLT,Nat.reduceSub,Int.reduceLT,Int.reduceLE,Int.reduceEq,Int.reduceNe,Int.reduceSub,Int.reduceAdd,Int.reduceMul,Int.reduceBEq,Int.reduceBNe,Int.reduceGT,Int.reduceGE,Nat.reduceGT,Int.reduceToNat,Int.reduceNeg,Nat.reduceLeDiff,Nat.reduceBEq,Nat.reduceBneDiff,Value.cells, w1, w2, w3, n1, n2, Int.toNat_natCast, s1, s2, u32_or]
  rfl

theorem sha_turn_c (E : EnvT tab) (h : Heap) (x : U32) (n : Nat) {z : Int} (hz : z = n) (h1 : 1 ≤ n) (h2 : n ≤ 31) : ACallN E.toEnv n_sha_turn [.int .u32 x.toNat, .int .i64 z] h fun r h' => h' = h ∧ r = .int .u32 (turnF x n).toNat := by
  subst hz
  refine acall h_sha_turn ir_sha_turn rfl rfl (wpA_sound ?_)
  unfold ir_sha_turn
  have w : IntKind.i64.wrap (0 - (n : Int)) = -(n : Int) := by rw [wrapI (by omega) (by omega)]; omega
  simp -implicitDefEqProofs only [zB1,zB2,zB3,zB4,zB5,zB6,zB7,zB8,zB9,zB10,zB11,y00,y01,y02,y03,y04,y05,y06,y07,y08,y09,y0a,y0b,y0c,y0d,y0e,y0f,y0g,y0h,y0i,y0j,y0k,y0l,y0m,y0n,y0o,y0p,y0q,y0r,y0s,y0t,y0u,y0v,y0w,y0x,y0y,y0z,y10,y11,y12,y13,y14,y15,y16,y17,y18,y19,y1a,y1b,y1c,y1d,y1e,y1f,y1g,y1h,y1i,y1j,y1k,y1l,y1m,y1n,y1o,y1p,y1q,y1r,retO,retL,retV,z6i,allV,allP,z6j,z6m,z6n,z6t,z6u,z6v,binV,eqV,unV,oOpt,reduceIte,reduceCtorEq,Nat.reduceEqDiff,Nat.reduceAdd,Nat.reduceMul,Nat.reduceLT,Nat.reduceSub,Int.reduceLT,Int.reduceLE,Int.reduceEq,Int.reduceNe,Int.reduceSub,Int.reduceAdd,Int.reduceMul,Int.reduceBEq,Int.reduceBNe,Int.reduceGT,Int.reduceGE,Nat.reduceGT,Int.reduceToNat,Int.reduceNeg,Nat.reduceLeDiff,Nat.reduceBEq,Nat.reduceBneDiff,Value.cells, w]
  refine (RotateLeft32_c E _ x n h1 h2).mono ?_
  rintro r h' ⟨rfl, rfl⟩
  simp -implicitDefEqProofs only [zB1,zB2,zB3,zB4,zB5,zB6,zB7,zB8,zB9,zB10,zB11,y00,y01,y02,y03,y04,y05,y06,y07,y08,y09,y0a,y0b,y0c,y0d,y0e,y0f,y0g,y0h,y0i,y0j,y0k,y0l,y0m,y0n,y0o,y0p,y0q,y0r,y0s,y0t,y0u,y0v,y0w,y0x,y0y,y0z,y10,y11,y12,y13,y14,y15,y16,y17,y18,y19,y1a,y1b,y1c,y1d,y1e,y1f,y1g,y1h,y1i,y1j,y1k,y1l,y1m,y1n,y1o,y1p,y1q,y1r,retO,retL,retV,z6i,allV,allP,z6j,z6m,z6n,z6t,z6u,z6v,binV,eqV,unV,oOpt,reduceIte,reduceCtorEq,Nat.reduceEqDiff,Nat.reduceAdd,Nat.reduceMul,Nat.reduceLT,Nat.reduceSub,Int.reduceLT,Int.reduceLE,Int.reduceEq,Int.reduceNe,Int.reduceSub,Int.reduceAdd,Int.reduceMul,Int.reduceBEq,Int.reduceBNe,Int.reduceGT,Int.reduceGE,Nat.reduceGT,Int.reduceToNat,Int.reduceNeg,Nat.reduceLeDiff,Nat.reduceBEq,Nat.reduceBneDiff,Value.cells]

theorem sh3 (x : U32) : (x.toNat : Int).fdiv (2 ^ (min (Int.toNat 3) IntKind.u32.bits)) = ((x >>> 3).toNat : Int) := u32_shr x 3 (by omega)
theorem sh3' (x : U32) : (x.toNat : Int).fdiv (2 ^ (min 3 IntKind.u32.bits)) = ((x >>> 3).toNat : Int) := u32_shr x 3 (by omega)
theorem sh10 (x : U32) : (x.toNat : Int).fdiv (2 ^ (min (Int.toNat 10) IntKind.u32.bits)) = ((x >>> 10).toNat : Int) := u32_shr x 10 (by omega)
theorem sh10' (x : U32) : (x.toNat : Int).fdiv (2 ^ (min 10 IntKind.u32.bits)) = ((x >>> 10).toNat : Int) := u32_shr x 10 (by omega)
theorem sha_schedule_c (E : EnvT tab) (h : Heap) {v : Value} (b : List UInt8) (hb : b.length = 64) (s : SlB h v b) : ACallN E.toEnv n_sha_schedule [v] h fun r h' => h.le h' ∧ r = .agg (rowU (schedW b 64) 64).toArray := by
  obtain ⟨base, c, rfl⟩ := Sl.shape s
  have hc : b.length ≤ c := by
    rcases s with ⟨e, hn, _⟩ | ⟨a, c', e, hc, _⟩
    · omega
    · simp only [Value.slice.injEq] at e
      omega
  refine acall h_sha_schedule ir_sha_schedule rfl rfl (wpA_sound ?_)
  unfold ir_sha_schedule
  simp -implicitDefEqProofs only [zB1,zB2,zB3,zB4,zB5,zB6,zB7,zB8,zB9,zB10,zB11,y00,y01,y02,y03,y04,y05,y06,y07,y08,y09,y0a,y0b,y0c,y0d,y0e,y0f,y0g,y0h,y0i,y0j,y0k,y0l,y0m,y0n,y0o,y0p,y0q,y0r,y0s,y0t,y0u,y0v,y0w,y0x,y0y,y0z,y10,y11,y12,y13,y14,y15,y16,y17,y18,y19,y1a,y1b,y1c,y1d,y1e,y1f,y1g,y1h,y1i,y1j,y1k,y1l,y1m,y1n,y1o,y1p,y1q,y1r,retO,retL,retV,z6i,allV,allP,z6j,z6m,z6n,z6t,z6u,z6v,binV,eqV,unV,oOpt,reduceIte,reduceCtorEq,Nat.reduceEqDiff,Nat.reduceAdd,Nat.reduceMul,Nat.reduceLT,Nat.reduceSub,Int.reduceLT,Int.reduceLE,Int.reduceEq,Int.reduceNe,Int.reduceSub,Int.reduceAdd,Int.reduceMul,Int.reduceBEq,Int.reduceBNe,Int.reduceGT,Int.reduceGE,Nat.reduceGT,Int.reduceToNat,Int.reduceNeg,Nat.reduceLeDiff,Nat.reduceBEq,Nat.reduceBneDiff,Value.cells]
  intro b2 hb2 b3 hb3
  have n23 : b3 ≠ b2 := (Heap.set_none.1 hb3).1
  have hb3' := (Heap.set_none.1 hb3).2
  rw [rowU_new, rowU_len]
  refine wp_loop' (fun m t H => h.le H ∧ ∃ (i : Nat), t = tl [(0, .slice base b.length c), (2, .pointer (some ⟨b2, 0, none⟩)), (3, .pointer (some ⟨b3, 0, none⟩)), (11, .int .i64 i)] ∧ i ≤ 64 ∧ m = 64 - i ∧
      H b2 = some (.own 0 (rowU (fun _ => 0) 64) 64) ∧ H b3 = some (.own 0 (rowU (schedW b i) 64) 64)) 64
    ⟨Heap.le_new (Heap.le_new (Heap.le_refl _) hb2 _) hb3 _, 0, rfl, by omega, by omega, by rw [Heap.set_ne (Ne.symm n23), Heap.set_self], Heap.set_self _ _ _⟩ ?_
  rintro m t H ⟨hle, i, rfl, hi, rfl, q2, q3⟩
  by_cases hlt : i < 64
  · have hi1 : (i : Int) < 64 := by omega
    have hi2 : (0 : Int) ≤ i := by omega
    have w1 : IntKind.i64.wrap ((i : Int) + 1) = ((i + 1 : Nat) : Int) := wrapN (by omega)
    have st := rowU_store (z := schedX b (schedW b i) i) q3 hlt
    have fin : ∃ m, m < 64 - i ∧ h.le (H.set b3 (.own 0 (rowU (updU (schedW b i) i (schedX b (schedW b i) i)) 64) 64)) ∧ ∃ (i' : Nat), tl [(0, Value.slice base b.length c), (2, .pointer (some ⟨b2, 0, none⟩)), (3, .pointer (some ⟨b3, 0, none⟩)), (11, .int .i64 ((i + 1 : Nat) : Int))] =
        tl [(0, Value.slice base b.length c), (2, .pointer (some ⟨b2, 0, none⟩)), (3, .pointer (some ⟨b3, 0, none⟩)), (11, .int .i64 i')] ∧ i' ≤ 64 ∧ m = 64 - i' ∧
        (H.set b3 (.own 0 (rowU (updU (schedW b i) i (schedX b (schedW b i) i)) 64) 64)) b2 = some (.own 0 (rowU (fun _ => 0) 64) 64) ∧ (H.set b3 (.own 0 (rowU (updU (schedW b i) i (schedX b (schedW b i) i)) 64) 64)) b3 = some (.own 0 (rowU (schedW b i') 64) 64) :=
      ⟨_, by omega, Heap.le_set hle hb3' _, i + 1, rfl, by omega, rfl, by rw [Heap.set_ne (Ne.symm n23)]; exact q2, Heap.set_self _ _ _⟩
    by_cases h16 : i < 16
    · have g1 : (i : Int) < 16 := by omega
      have w2 : IntKind.i64.wrap (4 * (i : Int)) = ((4 * i : Nat) : Int) := by rw [wrapI (by omega) (by omega)]; omega
      have w3 : IntKind.i64.wrap (((4 * i : Nat) : Int) + 4) = ((4 * i + 4 : Nat) : Int) := by rw [wrapI (by omega) (by omega)]; omega
      have bd : bnds b.length c (some (some (.int .i64 ((4 * i : Nat) : Int)))) (some (some (.int .i64 ((4 * i + 4 : Nat) : Int)))) none = some (4 * i, 4 * i + 4, c) := by
        rw [bnds_both (by omega) (by omega) (by omega), Int.toNat_natCast, Int.toNat_natCast]
      simp -implicitDefEqProofs only [zB1,zB2,zB3,zB4,zB5,zB6,zB7,zB8,zB9,zB10,zB11,y00,y01,y02,y03,y04,y05,y06,y07,y08,y09,y0a,y0b,y0c,y0d,y0e,y0f,y0g,y0h,y0i,y0j,y0k,y0l,y0m,y0n,y0o,y0p,y0q,y0r,y0s,y0t,y0u,y0v,y0w,y0x,y0y,y0z,y10,y11,y12,y13,y14,y15,y16,y17,y18,y19,y1a,y1b,y1c,y1d,y1e,y1f,y1g,y1h,y1i,y1j,y1k,y1l,y1m,y1n,y1o,y1p,y1q,y1r,retO,retL,retV,z6i,allV,allP,z6j,z6m,z6n,z6t,z6u,z6v,binV,eqV,unV,oOpt,reduceIte,reduceCtorEq,Nat.reduceEqDiff,Nat.reduceAdd,Nat.reduceMul,Nat.reduceLT,Nat.reduceSub,Int.reduceLT,Int.reduceLE,Int.reduceEq,Int.reduceNe,Int.reduceSub,Int.reduceAdd,Int.reduceMul,Int.reduceBEq,Int.reduceBNe,Int.reduceGT,Int.reduceGE,Nat.reduceGT,Int.reduceToNat,Int.reduceNeg,Nat.reduceLeDiff,Nat.reduceBEq,Nat.reduceBneDiff,Value.cells, hi1, hi2, g1, w2, w3, bd]
      have sm := Sl.midB (Sl.le hle s) (a := 4 * i) (b := 4 * i + 4) (by omega) (by omega)
      have e4 : 4 * i + 4 - 4 * i = 4 := by omega
      rw [e4] at sm ⊢
      have e5 : ((b.drop (4 * i)).take 4).length = 4 := by simp; omega
      refine (octet_FromBig_c E _ _ (by omega) sm).mono ?_
      rintro r H' ⟨rfl, rfl⟩
      have ex : schedX b (schedW b i) i = (fromBigF ((b.drop (4 * i)).take 4)).setWidth 32 := by unfold schedX; rw [if_pos h16]
      rw [ex] at st fin
      unfold u64V
      simp -implicitDefEqProofs only [zB1,zB2,zB3,zB4,zB5,zB6,zB7,zB8,zB9,zB10,zB11,y00,y01,y02,y03,y04,y05,y06,y07,y08,y09,y0a,y0b,y0c,y0d,y0e,y0f,y0g,y0h,y0i,y0j,y0k,y0l,y0m,y0n,y0o,y0p,y0q,y0r,y0s,y0t,y0u,y0v,y0w,y0x,y0y,y0z,y10,y11,y12,y13,y14,y15,y16,y17,y18,y19,y1a,y1b,y1c,y1d,y1e,y1f,y1g,y1h,y1i,y1j,y1k,y1l,y1m,y1n,y1o,y1p,y1q,y1r,retO,retL,retV,z6i,allV,allP,z6j,z6m,z6n,z6t,z6u,z6v,binV,eqV,unV,oOpt,reduceIte,reduceCtorEq,Nat.reduceEqDiff,Nat.reduceAdd,Nat.reduceMul,Nat.reduceLT,Nat.reduceSub,Int.reduceLT,Int.reduceLE,Int.reduceEq,Int.reduceNe,Int.reduceSub,Int.reduceAdd,Int.reduceMul,Int.reduceBEq,Int.reduceBNe,Int.reduceGT,Int.reduceGE,Nat.reduceGT,Int.reduceToNat,Int.reduceNeg,Nat.reduceLeDiff,Nat.reduceBEq,Nat.reduceBneDiff,Value.cells, hi1, hi2, u64_u32, Int.toNat_natCast, st, w1]
      exact fin
    · have g1 : ¬ (i : Int) < 16 := by omega
      have w15 : IntKind.i64.wrap ((i : Int) - 15) = ((i - 15 : Nat) : Int) := by rw [wrapI (by omega) (by omega)]; omega
      have w2 : IntKind.i64.wrap ((i : Int) - 2) = ((i - 2 : Nat) : Int) := by rw [wrapI (by omega) (by omega)]; omega
      have w16 : IntKind.i64.wrap ((i : Int) - 16) = ((i - 16 : Nat) : Int) := by rw [wrapI (by omega) (by omega)]; omega
      have w7 : IntKind.i64.wrap ((i : Int) - 7) = ((i - 7 : Nat) : Int) := by rw [wrapI (by omega) (by omega)]; omega
      have a15 := rowU_at q3 (show i - 15 < 64 by omega)
      have a2 := rowU_at q3 (show i - 2 < 64 by omega)
      have a16 := rowU_at q3 (show i - 16 < 64 by omega)
      have a7 := rowU_at q3 (show i - 7 < 64 by omega)
      have ex : schedX b (schedW b i) i = schedW b i (i - 16) + (turnF (schedW b i (i - 15)) 7 ^^^ turnF (schedW b i (i - 15)) 18 ^^^ schedW b i (i - 15) >>> 3) + schedW b i (i - 7) + (turnF (schedW b i (i - 2)) 17 ^^^ turnF (schedW b i (i - 2)) 19 ^^^ schedW b i (i - 2) >>> 10) := by
        conv => lhs; unfold schedX
        rw [if_neg h16]
      rw [ex] at st fin
      have lt : ∀ k : Nat, k ≤ i → ((i - k : Nat) : Int) < 64 := fun k hk => by omega
      have l15 := lt 15 (by omega)
      have l2 := lt 2 (by omega)
      have l16 := lt 16 (by omega)
      have l7 := lt 7 (by omega)
      have ge : ∀ k : Nat, (0 : Int) ≤ ((i - k : Nat) : Int) := fun k => by omega
      generalize schedW b i = w at a15 a2 a16 a7 st fin
      simp -implicitDefEqProofs only [zB1,zB2,zB3,zB4,zB5,zB6,zB7,zB8,zB9,zB10,zB11,y00,y01,y02,y03,y04,y05,y06,y07,y08,y09,y0a,y0b,y0c,y0d,y0e,y0f,y0g,y0h,y0i,y0j,y0k,y0l,y0m,y0n,y0o,y0p,y0q,y0r,y0s,y0t,y0u,y0v,y0w,y0x,y0y,y0z,y10,y11,y12,y13,y14,y15,y16,y17,y18,y19,y1a,y1b,y1c,y1d,y1e,y1f,y1g,y1h,y1i,y1j,y1k,y1l,y1m,y1n,y1o,y1p,y1q,y1r,retO,retL,retV,z6i,allV,allP,z6j,z6m,z6n,z6t,z6u,z6v,binV,eqV,unV,oOpt,reduceIte,reduceCtorEq,Nat.reduceEqDiff,Nat.reduceAdd,Nat.reduceMul,Nat.reduceLT,Nat.reduceSub,Int.reduceLT,Int.reduceLE,Int.reduceEq,Int.reduceNe,Int.reduceSub,Int.reduceAdd,Int.reduceMul,Int.reduceBEq,Int.reduceBNe,Int.reduceGT,Int.reduceGE,Nat.reduceGT,Int.reduceToNat,Int.reduceNeg,Nat.reduceLeDiff,Nat.reduceBEq,Nat.reduceBneDiff,Value.cells, hi1, hi2, g1, w15, w2, a15, a2, l15, l2, ge, Int.toNat_natCast]
      refine (sha_turn_c E _ _ 7 rfl (by omega) (by omega)).mono ?_
      rintro r H' ⟨rfl, rfl⟩
      simp -implicitDefEqProofs only [zB1,zB2,zB3,zB4,zB5,zB6,zB7,zB8,zB9,zB10,zB11,y00,y01,y02,y03,y04,y05,y06,y07,y08,y09,y0a,y0b,y0c,y0d,y0e,y0f,y0g,y0h,y0i,y0j,y0k,y0l,y0m,y0n,y0o,y0p,y0q,y0r,y0s,y0t,y0u,y0v,y0w,y0x,y0y,y0z,y10,y11,y12,y13,y14,y15,y16,y17,y18,y19,y1a,y1b,y1c,y1d,y1e,y1f,y1g,y1h,y1i,y1j,y1k,y1l,y1m,y1n,y1o,y1p,y1q,y1r,retO,retL,retV,z6i,allV,allP,z6j,z6m,z6n,z6t,z6u,z6v,binV,eqV,unV,oOpt,reduceIte,reduceCtorEq,Nat.reduceEqDiff,Nat.reduceAdd,Nat.reduceMul,Nat.reduceLT,Nat.reduceSub,Int.reduceLT,Int.reduceLE,Int.reduceEq,Int.reduceNe,Int.reduceSub,Int.reduceAdd,Int.reduceMul,Int.reduceBEq,Int.reduceBNe,Int.reduceGT,Int.reduceGE,Nat.reduceGT,Int.reduceToNat,Int.reduceNeg,Nat.reduceLeDiff,Nat.reduceBEq,Nat.reduceBneDiff,Value.cells]
      refine (sha_turn_c E _ _ 18 rfl (by omega) (by omega)).mono ?_
      rintro r H' ⟨rfl, rfl⟩
      simp -implicitDefEqProofs only [zB1,zB2,zB3,zB4,zB5,zB6,zB7,zB8,zB9,zB10,zB11,y00,y01,y02,y03,y04,y05,y06,y07,y08,y09,y0a,y0b,y0c,y0d,y0e,y0f,y0g,y0h,y0i,y0j,y0k,y0l,y0m,y0n,y0o,y0p,y0q,y0r,y0s,y0t,y0u,y0v,y0w,y0x,y0y,y0z,y10,y11,y12,y13,y14,y15,y16,y17,y18,y19,y1a,y1b,y1c,y1d,y1e,y1f,y1g,y1h,y1i,y1j,y1k,y1l,y1m,y1n,y1o,y1p,y1q,y1r,retO,retL,retV,z6i,allV,allP,z6j,z6m,z6n,z6t,z6u,z6v,binV,eqV,unV,oOpt,reduceIte,reduceCtorEq,Nat.reduceEqDiff,Nat.reduceAdd,Nat.reduceMul,Nat.reduceLT,Nat.reduceSub,Int.reduceLT,Int.reduceLE,Int.reduceEq,Int.reduceNe,Int.reduceSub,Int.reduceAdd,Int.reduceMul,Int.reduceBEq,Int.reduceBNe,Int.reduceGT,Int.reduceGE,Nat.reduceGT,Int.reduceToNat,Int.reduceNeg,Nat.reduceLeDiff,Nat.reduceBEq,Nat.reduceBneDiff,Value.cells, u32_xor, sh3, sh3']
      refine (sha_turn_c E _ _ 17 rfl (by omega) (by omega)).mono ?_
      rintro r H' ⟨rfl, rfl⟩
      simp -implicitDefEqProofs only [zB1,zB2,zB3,zB4,zB5,zB6,zB7,zB8,zB9,zB10,zB11,y00,y01,y02,y03,y04,y05,y06,y07,y08,y09,y0a,y0b,y0c,y0d,y0e,y0f,y0g,y0h,y0i,y0j,y0k,y0l,y0m,y0n,y0o,y0p,y0q,y0r,y0s,y0t,y0u,y0v,y0w,y0x,y0y,y0z,y10,y11,y12,y13,y14,y15,y16,y17,y18,y19,y1a,y1b,y1c,y1d,y1e,y1f,y1g,y1h,y1i,y1j,y1k,y1l,y1m,y1n,y1o,y1p,y1q,y1r,retO,retL,retV,z6i,allV,allP,z6j,z6m,z6n,z6t,z6u,z6v,binV,eqV,unV,oOpt,reduceIte,reduceCtorEq,Nat.reduceEqDiff,Nat.reduceAdd,Nat.reduceMul,Nat.reduceLT,Nat.reduceSub,Int.reduceLT,Int.reduceLE,Int.reduceEq,Int.reduceNe,Int.reduceSub,Int.reduceAdd,Int.reduceMul,Int.reduceBEq,Int.reduceBNe,Int.reduceGT,Int.reduceGE,Nat.reduceGT,Int.reduceToNat,Int.reduceNeg,Nat.reduceLeDiff,Nat.reduceBEq,Nat.reduceBneDiff,Value.cells]
      refine (sha_turn_c E _ _ 19 rfl (by omega) (by omega)).mono ?_
      rintro r H' ⟨rfl, rfl⟩
      simp -implicitDefEqProofs only [zB1,zB2,zB3,zB4,zB5,zB6,zB7,zB8,zB9,zB10,zB11,y00,y01,y02,y03,y04,y05,y06,y07,y08,y09,y0a,y0b,y0c,y0d,y0e,y0f,y0g,y0h,y0i,y0j,y0k,y0l,y0m,y0n,y0o,y0p,y0q,y0r,y0s,y0t,y0u,y0v,y0w,y0x,y0y,y0z,y10,y11,y12,y13,y14,y15,y16,y17,y18,y19,y1a,y1b,y1c,y1d,y1e,y1f,y1g,y1h,y1i,y1j,y1k,y1l,y1m,y1n,y1o,y1p,y1q,y1r,retO,retL,retV,z6i,allV,allP,z6j,z6m,z6n,z6t,z6u,z6v,binV,eqV,unV,oOpt,reduceIte,reduceCtorEq,Nat.reduceEqDiff,Nat.reduceAdd,Nat.reduceMul,Nat.reduceLT,Nat.reduceSub,Int.reduceLT,Int.reduceLE,Int.reduceEq,Int.reduceNe,Int.reduceSub,Int.reduceAdd,Int.reduceMul,Int.reduceBEq,Int.reduceBNe,Int.reduceGT,Int.reduceGE,Nat.reduceGT,Int.reduceToNat,Int.reduceNeg,Nat.reduceLeDiff,Nat.reduceBEq,Nat.reduceBneDiff,Value.cells, u32_xor, u32_add, sh10, sh10', w16, w7, a16, a7, l16, l7, ge, Int.toNat_natCast, hi1, hi2, st, w1]
      exact fin
  · have hi1 : ¬ (i : Int) < 64 := by omega
    have : i = 64 := by omega
    subst this
    have hl : hcells H ⟨b3, 0, none⟩ 64 = some (rowU (schedW b 64) 64) := by rw [hcells_at q3 (by rw [rowU_len]; omega)]; simp [List.take_of_length_le, rowU_len]
    have st : storeV H 64 (.pointer (some ⟨b2, 0, none⟩)) (.agg (rowU (schedW b 64) 64).toArray) = some (H.set b2 (.own 0 (rowU (schedW b 64) 64) 64)) := storeV_agg_at q2 (by omega) (rowU_len _ _) (rowU_one _ _) (rowU_len _ _) (by omega)
    have hl2 : hcells (H.set b2 (.own 0 (rowU (schedW b 64) 64) 64)) ⟨b2, 0, none⟩ 64 = some (rowU (schedW b 64) 64) := z6x (rowU_len _ _)
    simp -implicitDefEqProofs only [zB1,zB2,zB3,zB4,zB5,zB6,zB7,zB8,zB9,zB10,zB11,y00,y01,y02,y03,y04,y05,y06,y07,y08,y09,y0a,y0b,y0c,y0d,y0e,y0f,y0g,y0h,y0i,y0j,y0k,y0l,y0m,y0n,y0o,y0p,y0q,y0r,y0s,y0t,y0u,y0v,y0w,y0x,y0y,y0z,y10,y11,y12,y13,y14,y15,y16,y17,y18,y19,y1a,y1b,y1c,y1d,y1e,y1f,y1g,y1h,y1i,y1j,y1k,y1l,y1m,y1n,y1o,y1p,y1q,y1r,retO,retL,retV,z6i,allV,allP,z6j,z6m,z6n,z6t,z6u,z6v,binV,eqV,unV,oOpt,reduceIte,reduceCtorEq,Nat.reduceEqDiff,Nat.reduceAdd,Nat.reduceMul,Nat.reduceLT,Nat.reduceSub,Int.reduceLT,Int.reduceLE,Int.reduceEq,Int.reduceNe,Int.reduceSub,Int.reduceAdd,Int.reduceMul,Int.reduceBEq,Int.reduceBNe,Int.reduceGT,Int.reduceGE,Nat.reduceGT,Int.reduceToNat,Int.reduceNeg,Nat.reduceLeDiff,Nat.reduceBEq,Nat.reduceBneDiff,Value.cells, hi1, hl, st, hl2]
    exact Heap.le_set hle hb2 _
end Go.Bb
/- Contracts: sums of bytes: a block is mixed in. -/
namespace Go.Bb
set_option linter.unusedSimpArgs false
set_option linter.unusedVariables false
set_option maxRecDepth 20000

theorem rowU_cells {H : Heap} {b n sz : Nat} {f : Nat → U32} (h : H b = some (.own 0 (rowU f n) sz)) : hcells H ⟨b, 0, none⟩ n = some (rowU f n) := by
  rw [hcells_at h (by rw [rowU_len]; omega)]; simp [List.take_of_length_le, rowU_len]

theorem sha_mix_c (E : EnvT tab) (h : Heap) {v : Value} (hs k : Nat → U32) (b : List UInt8) {bk ok : Nat} (kp : hcells h ⟨bk, ok, none⟩ 64 = some (rowU k 64)) (hb : b.length = 64) (s : SlB h v b) :
    ACallN E.toEnv n_sha_mix [.agg (rowU hs 8).toArray, v, .pointer (some ⟨bk, ok, none⟩)] h fun r h' => h.le h' ∧ r = .agg (rowU (mixF k hs b) 8).toArray := by
  obtain ⟨base, c, rfl⟩ := Sl.shape s
  refine acall h_sha_mix ir_sha_mix rfl rfl (wpA_sound ?_)
  unfold ir_sha_mix
  simp -implicitDefEqProofs only [zB1,zB2,zB3,zB4,zB5,zB6,zB7,zB8,zB9,zB10,zB11,y00,y01,y02,y03,y04,y05,y06,y07,y08,y09,y0a,y0b,y0c,y0d,y0e,y0f,y0g,y0h,y0i,y0j,y0k,y0l,y0m,y0n,y0o,y0p,y0q,y0r,y0s,y0t,y0u,y0v,y0w,y0x,y0y,y0z,y10,y11,y12,y13,y14,y15,y16,y17,y18,y19,y1a,y1b,y1c,y1d,y1e,y1f,y1g,y1h,y1i,y1j,y1k,y1l,y1m,y1n,y1o,y1p,y1q,y1r,retO,retL,retV,z6i,allV,allP,z6j,z6m,z6n,z6t,z6u,z6v,binV,eqV,unV,oOpt,reduceIte,reduceCtorEq,Nat.reduceEqDiff,Nat.reduceAdd,Nat.reduceMul,Nat.reduceLT,Nat.reduceSub,Int.reduceLT,Int.reduceLE,Int.reduceEq,Int.reduceNe,Int.reduceSub,Int.reduceAdd,Int.reduceMul,Int.reduceBEq,Int.reduceBNe,Int.reduceGT,Int.reduceGE,Nat.reduceGT,Int.reduceToNat,Int.reduceNeg,Nat.reduceLeDiff,Nat.reduceBEq,Nat.reduceBneDiff,Value.cells]
  rw [rowU_len]
  intro b3 hb3 b6 hb6
  try simp -implicitDefEqProofs only [zB1,zB2,zB3,zB4,zB5,zB6,zB7,zB8,zB9,zB10,zB11,y00,y01,y02,y03,y04,y05,y06,y07,y08,y09,y0a,y0b,y0c,y0d,y0e,y0f,y0g,y0h,y0i,y0j,y0k,y0l,y0m,y0n,y0o,y0p,y0q,y0r,y0s,y0t,y0u,y0v,y0w,y0x,y0y,y0z,y10,y11,y12,y13,y14,y15,y16,y17,y18,y19,y1a,y1b,y1c,y1d,y1e,y1f,y1g,y1h,y1i,y1j,y1k,y1l,y1m,y1n,y1o,y1p,y1q,y1r,retO,retL,retV,z6i,allV,allP,z6j,z6m,z6n,z6t,z6u,z6v,binV,eqV,unV,oOpt,reduceIte,reduceCtorEq,Nat.reduceEqDiff,Nat.reduceAdd,Nat.reduceMul,Nat.reduceLT,Nat.reduceSub,Int.reduceLT,Int.reduceLE,Int.reduceEq,Int.reduceNe,Int.reduceSub,Int.reduceAdd,Int.reduceMul,Int.reduceBEq,Int.reduceBNe,Int.reduceGT,Int.reduceGE,Nat.reduceGT,Int.reduceToNat,Int.reduceNeg,Nat.reduceLeDiff,Nat.reduceBEq,Nat.reduceBneDiff,Value.cells]
  have n63 : b6 ≠ b3 := (Heap.set_none.1 hb6).1
  have hb6' := (Heap.set_none.1 hb6).2
  rw [List.length_replicate]
  have le0 : h.le ((h.set b3 (.own 0 (rowU hs 8) 8)).set b6 (.own 0 (List.replicate 8 (.int .u32 0)) 8)) := Heap.le_new (Heap.le_new (Heap.le_refl _) hb3 _) hb6 _
  have p3 : ((h.set b3 (.own 0 (rowU hs 8) 8)).set b6 (.own 0 (List.replicate 8 (.int .u32 0)) 8)) b3 = some (.own 0 (rowU hs 8) 8) := by rw [Heap.set_ne (Ne.symm n63), Heap.set_self]
  have p6 : ((h.set b3 (.own 0 (rowU hs 8) 8)).set b6 (.own 0 (List.replicate 8 (.int .u32 0)) 8)) b6 = some (.own 0 (rowU (fun _ => 0) 8) 8) := by rw [Heap.set_self, rowU_new]
  generalize ((h.set b3 (.own 0 (rowU hs 8) 8)).set b6 (.own 0 (List.replicate 8 (.int .u32 0)) 8)) = h0 at le0 p3 p6
  refine (sha_schedule_c E h0 b hb (Sl.le le0 s)).mono ?_
  rintro r h1 ⟨le1, rfl⟩
  have le01 := Heap.le_trans le0 le1
  have p3 := le1 _ _ p3
  have p6 := le1 _ _ p6
  simp -implicitDefEqProofs only [zB1,zB2,zB3,zB4,zB5,zB6,zB7,zB8,zB9,zB10,zB11,y00,y01,y02,y03,y04,y05,y06,y07,y08,y09,y0a,y0b,y0c,y0d,y0e,y0f,y0g,y0h,y0i,y0j,y0k,y0l,y0m,y0n,y0o,y0p,y0q,y0r,y0s,y0t,y0u,y0v,y0w,y0x,y0y,y0z,y10,y11,y12,y13,y14,y15,y16,y17,y18,y19,y1a,y1b,y1c,y1d,y1e,y1f,y1g,y1h,y1i,y1j,y1k,y1l,y1m,y1n,y1o,y1p,y1q,y1r,retO,retL,retV,z6i,allV,allP,z6j,z6m,z6n,z6t,z6u,z6v,binV,eqV,unV,oOpt,reduceIte,reduceCtorEq,Nat.reduceEqDiff,Nat.reduceAdd,Nat.reduceMul,Nat.reduceLT,Nat.reduceSub,Int.reduceLT,Int.reduceLE,Int.reduceEq,Int.reduceNe,Int.reduceSub,Int.reduceAdd,Int.reduceMul,Int.reduceBEq,Int.reduceBNe,Int.reduceGT,Int.reduceGE,Nat.reduceGT,Int.reduceToNat,Int.reduceNeg,Nat.reduceLeDiff,Nat.reduceBEq,Nat.reduceBneDiff,Value.cells]
  intro b7 hb7
  have st7 : storeV (h1.set b7 (.own 0 (List.replicate 64 (.int .u32 0)) 64)) 64 (.pointer (some ⟨b7, 0, none⟩)) (.agg (rowU (schedW b 64) 64).toArray) = some (h1.set b7 (.own 0 (rowU (schedW b 64) 64) 64)) := z6z (by omega) (rowU_len _ _) (rowU_one _ _) (by simp) (by omega)
  rw [List.length_replicate]
  have n73 := ne_of_none hb7 p3
  have n76 := ne_of_none hb7 p6
  have l3 : hcells (h1.set b7 (.own 0 (rowU (schedW b 64) 64) 64)) ⟨b3, 0, none⟩ 8 = some (rowU hs 8) := by rw [hcells_ne n73]; exact rowU_cells p3
  simp -implicitDefEqProofs only [zB1,zB2,zB3,zB4,zB5,zB6,zB7,zB8,zB9,zB10,zB11,y00,y01,y02,y03,y04,y05,y06,y07,y08,y09,y0a,y0b,y0c,y0d,y0e,y0f,y0g,y0h,y0i,y0j,y0k,y0l,y0m,y0n,y0o,y0p,y0q,y0r,y0s,y0t,y0u,y0v,y0w,y0x,y0y,y0z,y10,y11,y12,y13,y14,y15,y16,y17,y18,y19,y1a,y1b,y1c,y1d,y1e,y1f,y1g,y1h,y1i,y1j,y1k,y1l,y1m,y1n,y1o,y1p,y1q,y1r,retO,retL,retV,z6i,allV,allP,z6j,z6m,z6n,z6t,z6u,z6v,binV,eqV,unV,oOpt,reduceIte,reduceCtorEq,Nat.reduceEqDiff,Nat.reduceAdd,Nat.reduceMul,Nat.reduceLT,Nat.reduceSub,Int.reduceLT,Int.reduceLE,Int.reduceEq,Int.reduceNe,Int.reduceSub,Int.reduceAdd,Int.reduceMul,Int.reduceBEq,Int.reduceBNe,Int.reduceGT,Int.reduceGE,Nat.reduceGT,Int.reduceToNat,Int.reduceNeg,Nat.reduceLeDiff,Nat.reduceBEq,Nat.reduceBneDiff,Value.cells, st7, l3]
  intro b8 hb8
  have n87 := (Heap.set_none.1 hb8).1
  have hb8' := (Heap.set_none.1 hb8).2
  have n83 := ne_of_none hb8' p3
  have n86 := ne_of_none hb8' p6
  have st8 : storeV ((h1.set b7 (.own 0 (rowU (schedW b 64) 64) 64)).set b8 (.own 0 (List.replicate 8 (.int .u32 0)) 8)) 8 (.pointer (some ⟨b8, 0, none⟩)) (.agg (rowU hs 8).toArray) = some ((h1.set b7 (.own 0 (rowU (schedW b 64) 64) 64)).set b8 (.own 0 (rowU hs 8) 8)) := z6z (by omega) (rowU_len _ _) (rowU_one _ _) (by simp) (by omega)
  rw [List.length_replicate]
  simp -implicitDefEqProofs only [zB1,zB2,zB3,zB4,zB5,zB6,zB7,zB8,zB9,zB10,zB11,y00,y01,y02,y03,y04,y05,y06,y07,y08,y09,y0a,y0b,y0c,y0d,y0e,y0f,y0g,y0h,y0i,y0j,y0k,y0l,y0m,y0n,y0o,y0p,y0q,y0r,y0s,y0t,y0u,y0v,y0w,y0x,y0y,y0z,y10,y11,y12,y13,y14,y15,y16,y17,y18,y19,y1a,y1b,y1c,y1d,y1e,y1f,y1g,y1h,y1i,y1j,y1k,y1l,y1m,y1n,y1o,y1p,y1q,y1r,retO,retL,retV,z6i,allV,allP,z6j,z6m,z6n,z6t,z6u,z6v,binV,eqV,unV,oOpt,reduceIte,reduceCtorEq,Nat.reduceEqDiff,Nat.reduceAdd,Nat.reduceMul,Nat.reduceLT,Nat.reduceSub,Int.reduceLT,Int.reduceLE,Int.reduceEq,Int.reduceNe,Int.reduceSub,Int.reduceAdd,Int.reduceMul,Int.reduceBEq,Int.reduceBNe,Int.reduceGT,Int.reduceGE,Nat.reduceGT,Int.reduceToNat,Int.reduceNeg,Nat.reduceLeDiff,Nat.reduceBEq,Nat.reduceBneDiff,Value.cells, st8]
  have hb7' := Heap.none_of_le le01 hb7
  have hb8'' := Heap.none_of_le le01 hb8'
  generalize hw : schedW b 64 = w at hb8 ⊢
  refine wp_loop' (fun m t H => h.le H ∧ ∃ (i : Nat), t = tl [(2, .pointer (some ⟨bk, ok, none⟩)), (3, .pointer (some ⟨b3, 0, none⟩)), (6, .pointer (some ⟨b6, 0, none⟩)), (7, .pointer (some ⟨b7, 0, none⟩)), (8, .pointer (some ⟨b8, 0, none⟩)), (21, .int .i64 i)] ∧ i ≤ 64 ∧ m = 64 - i ∧
      H b3 = some (.own 0 (rowU hs 8) 8) ∧ H b6 = some (.own 0 (rowU (fun _ => 0) 8) 8) ∧ H b7 = some (.own 0 (rowU w 64) 64) ∧ H b8 = some (.own 0 (rowU (mixV k w hs i) 8) 8)) 64
    ⟨Heap.le_new (Heap.le_new le01 hb7 _) hb8 _, 0, rfl, by omega, by omega, by rw [Heap.set_ne n83, Heap.set_ne n73]; exact p3, by rw [Heap.set_ne n86, Heap.set_ne n76]; exact p6, by rw [Heap.set_ne (Ne.symm n87), Heap.set_self], Heap.set_self _ _ _⟩ ?_
  clear st7 st8 l3
  rintro m t H ⟨hle, i, rfl, hi, rfl, q3, q6, q7, q8⟩
  by_cases hlt : i < 64
  · have hi1 : (i : Int) < 64 := by omega
    have hi2 : (0 : Int) ≤ i := by omega
    have w1 : IntKind.i64.wrap ((i : Int) + 1) = ((i + 1 : Nat) : Int) := wrapN (by omega)
    have ki : hcell H ⟨bk, ok + i, none⟩ = some (.int .u32 (k i).toNat) := by
      rw [hcell_of (hcells_le hle kp) i (by omega)]
      simp [rowU, hlt]
    have wi := rowU_at q7 hlt
    have a0 := rowU_at q8 (show 0 < 8 by omega)
    have a1 := rowU_at q8 (show 1 < 8 by omega)
    have a2 := rowU_at q8 (show 2 < 8 by omega)
    have a3 := rowU_at q8 (show 3 < 8 by omega)
    have a4 := rowU_at q8 (show 4 < 8 by omega)
    have a5 := rowU_at q8 (show 5 < 8 by omega)
    have a6 := rowU_at q8 (show 6 < 8 by omega)
    have a7 := rowU_at q8 (show 7 < 8 by omega)
    have mx := mixX_row k w (mixV k w hs i) i
    have hv : mixV k w hs (i + 1) = mixX k w (mixV k w hs i) i := rfl
    generalize mixV k w hs i = v at a0 a1 a2 a3 a4 a5 a6 a7 mx hv q8
    simp only [mixT, mixR, mixM] at mx
    have st : ∀ us : List Value, rowU (mixX k w v i) 8 = us → storeV H 8 (.pointer (some ⟨b8, 0, none⟩)) (.agg us.toArray) = some (H.set b8 (.own 0 (rowU (mixX k w v i) 8) 8)) := fun us e => by
      rw [← e]; exact storeV_agg_at q8 (by omega) (rowU_len _ _) (rowU_one _ _) (rowU_len _ _) (by omega)
    have st := st _ mx
    simp -implicitDefEqProofs only [zB1,zB2,zB3,zB4,zB5,zB6,zB7,zB8,zB9,zB10,zB11,y00,y01,y02,y03,y04,y05,y06,y07,y08,y09,y0a,y0b,y0c,y0d,y0e,y0f,y0g,y0h,y0i,y0j,y0k,y0l,y0m,y0n,y0o,y0p,y0q,y0r,y0s,y0t,y0u,y0v,y0w,y0x,y0y,y0z,y10,y11,y12,y13,y14,y15,y16,y17,y18,y19,y1a,y1b,y1c,y1d,y1e,y1f,y1g,y1h,y1i,y1j,y1k,y1l,y1m,y1n,y1o,y1p,y1q,y1r,retO,retL,retV,z6i,allV,allP,z6j,z6m,z6n,z6t,z6u,z6v,binV,eqV,unV,oOpt,reduceIte,reduceCtorEq,Nat.reduceEqDiff,Nat.reduceAdd,Nat.reduceMul,Nat.reduceLT,Nat.reduceSub,Int.reduceLT,Int.reduceLE,Int.reduceEq,Int.reduceNe,Int.reduceSub,Int.reduceAdd,Int.reduceMul,Int.reduceBEq,Int.reduceBNe,Int.reduceGT,Int.reduceGE,Nat.reduceGT,Int.reduceToNat,Int.reduceNeg,Nat.reduceLeDiff,Nat.reduceBEq,Nat.reduceBneDiff,Value.cells, hi1, hi2, a0, a4, Int.toNat_natCast]
    refine (sha_turn_c E _ _ 6 rfl (by omega) (by omega)).mono ?_
    rintro r H' ⟨rfl, rfl⟩
    simp -implicitDefEqProofs only [zB1,zB2,zB3,zB4,zB5,zB6,zB7,zB8,zB9,zB10,zB11,y00,y01,y02,y03,y04,y05,y06,y07,y08,y09,y0a,y0b,y0c,y0d,y0e,y0f,y0g,y0h,y0i,y0j,y0k,y0l,y0m,y0n,y0o,y0p,y0q,y0r,y0s,y0t,y0u,y0v,y0w,y0x,y0y,y0z,y10,y11,y12,y13,y14,y15,y16,y17,y18,y19,y1a,y1b,y1c,y1d,y1e,y1f,y1g,y1h,y1i,y1j,y1k,y1l,y1m,y1n,y1o,y1p,y1q,y1r,retO,retL,retV,z6i,allV,allP,z6j,z6m,z6n,z6t,z6u,z6v,binV,eqV,unV,oOpt,reduceIte,reduceCtorEq,Nat.reduceEqDiff,Nat.reduceAdd,Nat.reduceMul,Nat.reduceLT,Nat.reduceSub,Int.reduceLT,Int.reduceLE,Int.reduceEq,Int.reduceNe,Int.reduceSub,Int.reduceAdd,Int.reduceMul,Int.reduceBEq,Int.reduceBNe,Int.reduceGT,Int.reduceGE,Nat.reduceGT,Int.reduceToNat,Int.reduceNeg,Nat.reduceLeDiff,Nat.reduceBEq,Nat.reduceBneDiff,Value.cells]
    refine (sha_turn_c E _ _ 11 rfl (by omega) (by omega)).mono ?_
    rintro r H' ⟨rfl, rfl⟩
    simp -implicitDefEqProofs only [zB1,zB2,zB3,zB4,zB5,zB6,zB7,zB8,zB9,zB10,zB11,y00,y01,y02,y03,y04,y05,y06,y07,y08,y09,y0a,y0b,y0c,y0d,y0e,y0f,y0g,y0h,y0i,y0j,y0k,y0l,y0m,y0n,y0o,y0p,y0q,y0r,y0s,y0t,y0u,y0v,y0w,y0x,y0y,y0z,y10,y11,y12,y13,y14,y15,y16,y17,y18,y19,y1a,y1b,y1c,y1d,y1e,y1f,y1g,y1h,y1i,y1j,y1k,y1l,y1m,y1n,y1o,y1p,y1q,y1r,retO,retL,retV,z6i,allV,allP,z6j,z6m,z6n,z6t,z6u,z6v,binV,eqV,unV,oOpt,reduceIte,reduceCtorEq,Nat.reduceEqDiff,Nat.reduceAdd,Nat.reduceMul,Nat.reduceLT,Nat.reduceSub,Int.reduceLT,Int.reduceLE,Int.reduceEq,Int.reduceNe,Int.reduceSub,Int.reduceAdd,Int.reduceMul,Int.reduceBEq,Int.reduceBNe,Int.reduceGT,Int.reduceGE,Nat.reduceGT,Int.reduceToNat,Int.reduceNeg,Nat.reduceLeDiff,Nat.reduceBEq,Nat.reduceBneDiff,Value.cells, u32_xor]
    refine (sha_turn_c E _ _ 25 rfl (by omega) (by omega)).mono ?_
    rintro r H' ⟨rfl, rfl⟩
    simp -implicitDefEqProofs only [zB1,zB2,zB3,zB4,zB5,zB6,zB7,zB8,zB9,zB10,zB11,y00,y01,y02,y03,y04,y05,y06,y07,y08,y09,y0a,y0b,y0c,y0d,y0e,y0f,y0g,y0h,y0i,y0j,y0k,y0l,y0m,y0n,y0o,y0p,y0q,y0r,y0s,y0t,y0u,y0v,y0w,y0x,y0y,y0z,y10,y11,y12,y13,y14,y15,y16,y17,y18,y19,y1a,y1b,y1c,y1d,y1e,y1f,y1g,y1h,y1i,y1j,y1k,y1l,y1m,y1n,y1o,y1p,y1q,y1r,retO,retL,retV,z6i,allV,allP,z6j,z6m,z6n,z6t,z6u,z6v,binV,eqV,unV,oOpt,reduceIte,reduceCtorEq,Nat.reduceEqDiff,Nat.reduceAdd,Nat.reduceMul,Nat.reduceLT,Nat.reduceSub,Int.reduceLT,Int.reduceLE,Int.reduceEq,Int.reduceNe,Int.reduceSub,Int.reduceAdd,Int.reduceMul,Int.reduceBEq,Int.reduceBNe,Int.reduceGT,Int.reduceGE,Nat.reduceGT,Int.reduceToNat,Int.reduceNeg,Nat.reduceLeDiff,Nat.reduceBEq,Nat.reduceBneDiff,Value.cells, u32_xor, u32_and, u32_not, u32_add, a5, a6, a7, ki, wi, hi1, hi2, Int.toNat_natCast]
    refine (sha_turn_c E _ _ 2 rfl (by omega) (by omega)).mono ?_
    rintro r H' ⟨rfl, rfl⟩
    simp -implicitDefEqProofs only [zB1,zB2,zB3,zB4,zB5,zB6,zB7,zB8,zB9,zB10,zB11,y00,y01,y02,y03,y04,y05,y06,y07,y08,y09,y0a,y0b,y0c,y0d,y0e,y0f,y0g,y0h,y0i,y0j,y0k,y0l,y0m,y0n,y0o,y0p,y0q,y0r,y0s,y0t,y0u,y0v,y0w,y0x,y0y,y0z,y10,y11,y12,y13,y14,y15,y16,y17,y18,y19,y1a,y1b,y1c,y1d,y1e,y1f,y1g,y1h,y1i,y1j,y1k,y1l,y1m,y1n,y1o,y1p,y1q,y1r,retO,retL,retV,z6i,allV,allP,z6j,z6m,z6n,z6t,z6u,z6v,binV,eqV,unV,oOpt,reduceIte,reduceCtorEq,Nat.reduceEqDiff,Nat.reduceAdd,Nat.reduceMul,Nat.reduceLT,Nat.reduceSub,Int.reduceLT,Int.reduceLE,Int.reduceEq,Int.reduceNe,Int.reduceSub,Int.reduceAdd,Int.reduceMul,Int.reduceBEq,Int.reduceBNe,Int.reduceGT,Int.reduceGE,Nat.reduceGT,Int.reduceToNat,Int.reduceNeg,Nat.reduceLeDiff,Nat.reduceBEq,Nat.reduceBneDiff,Value.cells]
    refine (sha_turn_c E _ _ 13 rfl (by omega) (by omega)).mono ?_
    rintro r H' ⟨rfl, rfl⟩
    simp -implicitDefEqProofs only [zB1,zB2,zB3,zB4,zB5,zB6,zB7,zB8,zB9,zB10,zB11,y00,y01,y02,y03,y04,y05,y06,y07,y08,y09,y0a,y0b,y0c,y0d,y0e,y0f,y0g,y0h,y0i,y0j,y0k,y0l,y0m,y0n,y0o,y0p,y0q,y0r,y0s,y0t,y0u,y0v,y0w,y0x,y0y,y0z,y10,y11,y12,y13,y14,y15,y16,y17,y18,y19,y1a,y1b,y1c,y1d,y1e,y1f,y1g,y1h,y1i,y1j,y1k,y1l,y1m,y1n,y1o,y1p,y1q,y1r,retO,retL,retV,z6i,allV,allP,z6j,z6m,z6n,z6t,z6u,z6v,binV,eqV,unV,oOpt,reduceIte,reduceCtorEq,Nat.reduceEqDiff,Nat.reduceAdd,Nat.reduceMul,Nat.reduceLT,Nat.reduceSub,Int.reduceLT,Int.reduceLE,Int.reduceEq,Int.reduceNe,Int.reduceSub,Int.reduceAdd,Int.reduceMul,Int.reduceBEq,Int.reduceBNe,Int.reduceGT,Int.reduceGE,Nat.reduceGT,Int.reduceToNat,Int.reduceNeg,Nat.reduceLeDiff,Nat.reduceBEq,Nat.reduceBneDiff,Value.cells, u32_xor]
    refine (sha_turn_c E _ _ 22 rfl (by omega) (by omega)).mono ?_
    rintro r H' ⟨rfl, rfl⟩
    simp -implicitDefEqProofs only [zB1,zB2,zB3,zB4,zB5,zB6,zB7,zB8,zB9,zB10,zB11,y00,y01,y02,y03,y04,y05,y06,y07,y08,y09,y0a,y0b,y0c,y0d,y0e,y0f,y0g,y0h,y0i,y0j,y0k,y0l,y0m,y0n,y0o,y0p,y0q,y0r,y0s,y0t,y0u,y0v,y0w,y0x,y0y,y0z,y10,y11,y12,y13,y14,y15,y16,y17,y18,y19,y1a,y1b,y1c,y1d,y1e,y1f,y1g,y1h,y1i,y1j,y1k,y1l,y1m,y1n,y1o,y1p,y1q,y1r,retO,retL,retV,z6i,allV,allP,z6j,z6m,z6n,z6t,z6u,z6v,binV,eqV,unV,oOpt,reduceIte,reduceCtorEq,Nat.reduceEqDiff,Nat.reduceAdd,Nat.reduceMul,Nat.reduceLT,Nat.reduceSub,Int.reduceLT,Int.reduceLE,Int.reduceEq,Int.reduceNe,Int.reduceSub,Int.reduceAdd,Int.reduceMul,Int.reduceBEq,Int.reduceBNe,Int.reduceGT,Int.reduceGE,Nat.reduceGT,Int.reduceToNat,Int.reduceNeg,Nat.reduceLeDiff,Nat.reduceBEq,Nat.reduceBneDiff,Value.cells, u32_xor, u32_and, u32_add, a0, a1, a2, a3, a4, a5, a6, Int.toNat_natCast, List.drop_replicate, List.replicate_zero, List.length_replicate, st, w1]
    refine ⟨_, ?_, Heap.le_set hle hb8'' _, i + 1, rfl, hlt, rfl, by rw [Heap.set_ne n83]; exact q3, by rw [Heap.set_ne n86]; exact q6, by rw [Heap.set_ne (Ne.symm n87)]; exact q7, by rw [Heap.set_self, hv]⟩
    omega
  · have hi1 : ¬ (i : Int) < 64 := by omega
    have : i = 64 := by omega
    subst this
    simp -implicitDefEqProofs only [zB1,zB2,zB3,zB4,zB5,zB6,zB7,zB8,zB9,zB10,zB11,y00,y01,y02,y03,y04,y05,y06,y07,y08,y09,y0a,y0b,y0c,y0d,y0e,y0f,y0g,y0h,y0i,y0j,y0k,y0l,y0m,y0n,y0o,y0p,y0q,y0r,y0s,y0t,y0u,y0v,y0w,y0x,y0y,y0z,y10,y11,y12,y13,y14,y15,y16,y17,y18,y19,y1a,y1b,y1c,y1d,y1e,y1f,y1g,y1h,y1i,y1j,y1k,y1l,y1m,y1n,y1o,y1p,y1q,y1r,retO,retL,retV,z6i,allV,allP,z6j,z6m,z6n,z6t,z6u,z6v,binV,eqV,unV,oOpt,reduceIte,reduceCtorEq,Nat.reduceEqDiff,Nat.reduceAdd,Nat.reduceMul,Nat.reduceLT,Nat.reduceSub,Int.reduceLT,Int.reduceLE,Int.reduceEq,Int.reduceNe,Int.reduceSub,Int.reduceAdd,Int.reduceMul,Int.reduceBEq,Int.reduceBNe,Int.reduceGT,Int.reduceGE,Nat.reduceGT,Int.reduceToNat,Int.reduceNeg,Nat.reduceLeDiff,Nat.reduceBEq,Nat.reduceBneDiff,Value.cells, hi1]
    have hV : mixF k hs b = fun j => hs j + mixV k w hs 64 j := by rw [← hw]; rfl
    rw [hV]
    generalize mixV k w hs 64 = V at q8
    refine wp_loop' (fun m t H => h.le H ∧ ∃ (i : Nat), t = tl [(3, .pointer (some ⟨b3, 0, none⟩)), (6, .pointer (some ⟨b6, 0, none⟩)), (8, .pointer (some ⟨b8, 0, none⟩)), (108, .int .i64 i)] ∧ i ≤ 8 ∧ m = 8 - i ∧
        H b3 = some (.own 0 (rowU (fun j => if j < i then hs j + V j else hs j) 8) 8) ∧ H b6 = some (.own 0 (rowU (fun _ => 0) 8) 8) ∧ H b8 = some (.own 0 (rowU V 8) 8)) 8
      ⟨hle, 0, rfl, by omega, by omega, by rw [q3]; rfl, q6, q8⟩ ?_
    clear hle q3 q6 q7 q8 hi1
    rintro m t H ⟨hle, i, rfl, hi, rfl, q3, q6, q8⟩
    by_cases hlt : i < 8
    · have hi1 : (i : Int) < 8 := by omega
      have hi2 : (0 : Int) ≤ i := by omega
      have w1 : IntKind.i64.wrap ((i : Int) + 1) = ((i + 1 : Nat) : Int) := wrapN (by omega)
      have a3 := rowU_at q3 hlt
      have a8 := rowU_at q8 hlt
      have st := rowU_store (z := hs i + V i) q3 hlt
      rw [if_neg (by omega)] at a3
      have e : rowU (updU (fun j => if j < i then hs j + V j else hs j) i (hs i + V i)) 8 = rowU (fun j => if j < i + 1 then hs j + V j else hs j) 8 := by
        apply rowU_congr
        intro j hj
        unfold updU
        by_cases e1 : j = i
        · subst e1; simp
        · rw [if_neg e1]
          by_cases e2 : j < i
          · simp only [e2, if_true]; rw [if_pos (by omega)]
          · simp only [e2, if_false]; rw [if_neg (by omega)]
      rw [e] at st
      simp -implicitDefEqProofs only [zB1,zB2,zB3,zB4,zB5,zB6,zB7,zB8,zB9,zB10,zB11,y00,y01,y02,y03,y04,y05,y06,y07,y08,y09,y0a,y0b,y0c,y0d,y0e,y0f,y0g,y0h,y0i,y0j,y0k,y0l,y0m,y0n,y0o,y0p,y0q,y0r,y0s,y0t,y0u,y0v,y0w,y0x,y0y,y0z,y10,y11,y12,y13,y14,y15,y16,y17,y18,y19,y1a,y1b,y1c,y1d,y1e,y1f,y1g,y1h,y1i,y1j,y1k,y1l,y1m,y1n,y1o,y1p,y1q,y1r,retO,retL,retV,z6i,allV,allP,z6j,z6m,z6n,z6t,z6u,z6v,binV,eqV,unV,oOpt,reduceIte,reduceCtorEq,Nat.reduceEqDiff,Nat.reduceAdd,Nat.reduceMul,Nat.reduceLT,Nat.reduceSub,Int.reduceLT,Int.reduceLE,Int.reduceEq,Int.reduceNe,Int.reduceSub,Int.reduceAdd,Int.reduceMul,Int.reduceBEq,Int.reduceBNe,Int.reduceGT,Int.reduceGE,Nat.reduceGT,Int.reduceToNat,Int.reduceNeg,Nat.reduceLeDiff,Nat.reduceBEq,Nat.reduceBneDiff,Value.cells, hi1, hi2, a3, a8, u32_add, Int.toNat_natCast, st, w1]
      refine ⟨_, ?_, Heap.le_set hle hb3 _, i + 1, rfl, hlt, rfl, Heap.set_self _ _ _, by rw [Heap.set_ne n63]; exact q6, by rw [Heap.set_ne (Ne.symm n83)]; exact q8⟩
      omega
    · have hi1 : ¬ (i : Int) < 8 := by omega
      have : i = 8 := by omega
      subst this
      have e : rowU (fun j => if j < 8 then hs j + V j else hs j) 8 = rowU (fun j => hs j + V j) 8 := rowU_congr fun j hj => if_pos hj
      rw [e] at q3
      have hl := rowU_cells q3
      have st : storeV H 8 (.pointer (some ⟨b6, 0, none⟩)) (.agg (rowU (fun j => hs j + V j) 8).toArray) = some (H.set b6 (.own 0 (rowU (fun j => hs j + V j) 8) 8)) := storeV_agg_at q6 (by omega) (rowU_len _ _) (rowU_one _ _) (rowU_len _ _) (by omega)
      have hl2 : hcells (H.set b6 (.own 0 (rowU (fun j => hs j + V j) 8) 8)) ⟨b6, 0, none⟩ 8 = some (rowU (fun j => hs j + V j) 8) := z6x (rowU_len _ _)
      simp -implicitDefEqProofs only [zB1,zB2,zB3,zB4,zB5,zB6,zB7,zB8,zB9,zB10,zB11,y00,y01,y02,y03,y04,y05,y06,y07,y08,y09,y0a,y0b,y0c,y0d,y0e,y0f,y0g,y0h,y0i,y0j,y0k,y0l,y0m,y0n,y0o,y0p,y0q,y0r,y0s,y0t,y0u,y0v,y0w,y0x,y0y,y0z,y10,y11,y12,y13,y14,y15,y16,y17,y18,y19,y1a,y1b,y1c,y1d,y1e,y1f,y1g,y1h,y1i,y1j,y1k,y1l,y1m,y1n,y1o,y1p,y1q,y1r,retO,retL,retV,z6i,allV,allP,z6j,z6m,z6n,z6t,z6u,z6v,binV,eqV,unV,oOpt,reduceIte,reduceCtorEq,Nat.reduceEqDiff,Nat.reduceAdd,Nat.reduceMul,Nat.reduceLT,Nat.reduceSub,Int.reduceLT,Int.reduceLE,Int.reduceEq,Int.reduceNe,Int.reduceSub,Int.reduceAdd,Int.reduceMul,Int.reduceBEq,Int.reduceBNe,Int.reduceGT,Int.reduceGE,Nat.reduceGT,Int.reduceToNat,Int.reduceNeg,Nat.reduceLeDiff,Nat.reduceBEq,Nat.reduceBneDiff,Value.cells, hi1, hl, st, hl2]
      exact Heap.le_set hle hb6' _
end Go.Bb
/- Contracts: sums of bytes: the beginning. -/
namespace Go.Bb
set_option linter.unusedSimpArgs false
set_option linter.unusedVariables false
set_option maxRecDepth 20000

def constL : List Nat := [1116352408, 1899447441, 3049323471, 3921009573, 961987163, 1508970993, 2453635748, 2870763221, 3624381080, 310598401, 607225278, 1426881987, 1925078388, 2162078206, 2614888103, 3248222580, 3835390401, 4022224774, 264347078, 604807628, 770255983, 1249150122, 1555081692, 1996064986, 2554220882, 2821834349, 2952996808, 3210313671, 3336571891, 3584528711, 113926993, 338241895, 666307205, 773529912, 1294757372, 1396182291, 1695183700, 1986661051, 2177026350, 2456956037, 2730485921, 2820302411, 3259730800, 3345764771, 3516065817, 3600352804, 4094571909, 275423344, 430227734, 506948616, 659060556, 883997877, 958139571, 1322822218, 1537002063, 1747873779, 1955562222, 2024104815, 2227730452, 2361852424, 2428436474, 2756734187, 3204031479, 3329325298]
def constF : Nat → U32 := fun j => BitVec.ofNat 32 (constL.getD j 0)
/-- A sum so far. -/
def sumC (hs : Nat → U32) (v : Value) (n : Int) : List Value := rowU hs 8 ++ (rowU constF 64 ++ [v, .int .i64 n])
/-! ### blocks -/
/-! ### what is owned, beside one block -/
/-- A sum of these bytes. -/
structure SumR (h0 h : Heap) (bs : Nat) (hs : Nat → U32) (rest : List UInt8) (n : Nat) : Prop where
  new : h0 bs = none
  ex : ∃ v, h bs = some (.own 0 (sumC hs v n) 74) ∧ ∀ X, OwB (h0.set bs X) h v rest

end Go.Bb
/- Contracts: sums of bytes: bytes are added. -/
namespace Go.Bb
set_option linter.unusedSimpArgs false
set_option linter.unusedVariables false
set_option maxRecDepth 20000

end Go.Bb
/- Contracts: sums of bytes: the end. -/
namespace Go.Bb
set_option linter.unusedSimpArgs false
set_option linter.unusedVariables false
set_option maxRecDepth 20000

end Go.Bb
/- Contracts: sums of bytes: what is told. -/
namespace Go.Bb
set_option linter.unusedSimpArgs false
set_option linter.unusedVariables false
set_option maxRecDepth 20000

theorem SumR.le {h0 h h' : Heap} {bs : Nat} {hs : Nat → U32} {rest : List UInt8} {n : Nat} (p : SumR h0 h bs hs rest n) (x : h.le h') : SumR h0 h' bs hs rest n :=
  ⟨p.new, by obtain ⟨v, h1, h2⟩ := p.ex; exact ⟨v, x _ _ h1, fun X => (h2 X).le x⟩⟩

end Go.Bb
/- The reckoner, for calls that tell rows of numbers. -/
namespace Go.Bb
set_option linter.unusedSimpArgs false
set_option linter.unusedVariables false
section
variable {tab : Nat → Option (Hint × AFunc)} {lf : Nat} {E : EnvT tab}

def isInt : Value → Bool
  | .int _ _ => true
  | _ => false
def isAgg (x : Option (Value × VM)) (us : List Value) : Bool :=
  match x with
  | some (.agg a, _) => sameL a.toList us && us.all isInt
  | _ => false
theorem sameL_ints : ∀ {a us : List Value}, sameL a us = true → us.all isInt = true → a = us
  | [], [], _, _ => rfl
  | [], _ :: _, h, _ => by cases h
  | _ :: _, [], h, _ => by cases h
  | x :: a, u :: us, h, hi => by
      simp only [sameL, Bool.and_eq_true] at h
      simp only [List.all_cons, Bool.and_eq_true] at hi
      rw [sameL_ints h.2 hi.2]
      congr 1
      have h1 := h.1
      have h2 := hi.1
      cases u <;> try (cases h2; done)
      cases x <;> simp only [sameV0, Bool.and_eq_true, decide_eq_true_eq] at h1 <;> try (cases h1; done)
      obtain ⟨rfl, rfl⟩ := h1; rfl
theorem all2_ints {fid : Nat → Option FuncId} {r : Rr} : ∀ {l l' : List Value}, All2 (VR0 fid r) l l' → l.all isInt = true → l' = l
  | _, _, .nil, _ => rfl
  | x :: l, y :: l', .cons h t, hi => by
      simp only [List.all_cons, Bool.and_eq_true] at hi
      rw [all2_ints t hi.2]
      congr 1
      have h2 := hi.1
      cases x <;> try (cases h2; done)
      cases h with | base h => cases h; rfl
end
end Go.Bb
/- The reckoner with blocks mixed at once. -/
namespace Go.Bb
set_option linter.unusedSimpArgs false
set_option linter.unusedVariables false
set_option maxRecDepth 20000

def nextX (b : List UInt8) (ws : List U32) (i : Nat) : U32 :=
  if i < 16 then (fromBigF ((b.drop (4 * i)).take 4)).setWidth 32
  else ws.getD 15 0 + (turnF (ws.getD 14 0) 7 ^^^ turnF (ws.getD 14 0) 18 ^^^ ws.getD 14 0 >>> 3) + ws.getD 6 0 + (turnF (ws.getD 1 0) 17 ^^^ turnF (ws.getD 1 0) 19 ^^^ ws.getD 1 0 >>> 10)
def schedR (b : List UInt8) : Nat → List U32
  | 0 => []
  | i + 1 => nextX b (schedR b i) i :: schedR b i
theorem schedR_get (b : List UInt8) : ∀ i j, j < i → (schedR b i).getD (i - 1 - j) 0 = schedW b i j
  | 0, j, h => by omega
  | i + 1, j, h => by
      have ih := schedR_get b i
      unfold schedR schedW updU
      by_cases e : j = i
      · subst e
        rw [if_pos rfl, Nat.add_sub_cancel, Nat.sub_self, List.getD_cons_zero]
        unfold nextX schedX
        by_cases h16 : j < 16
        · rw [if_pos h16, if_pos h16]
        · rw [if_neg h16, if_neg h16]
          have g : ∀ k, k < j → (schedR b j).getD k 0 = schedW b j (j - (k + 1)) := fun k hk => by
            have := ih (j - (k + 1)) (by omega)
            rwa [show j - 1 - (j - (k + 1)) = k from by omega] at this
          rw [g 15 (by omega), g 14 (by omega), g 6 (by omega), g 1 (by omega)]
      · rw [if_neg e, Nat.add_sub_cancel, show i - j = (i - 1 - j) + 1 from by omega, List.getD_cons_succ]
        exact ih j (by omega)
theorem schedR_64 (b : List UInt8) (i : Nat) (h : i < 64) : (schedR b 64).getD (63 - i) 0 = schedW b 64 i := schedR_get b 64 i h

structure S8 where
  a : U32
  b : U32
  c : U32
  d : U32
  e : U32
  f : U32
  g : U32
  h : U32
def S8.get (s : S8) : Nat → U32
  | 0 => s.a
  | 1 => s.b
  | 2 => s.c
  | 3 => s.d
  | 4 => s.e
  | 5 => s.f
  | 6 => s.g
  | 7 => s.h
  | _ => 0
def S8.tt (K wr : List U32) (s : S8) (i : Nat) : U32 := s.h + (turnF s.e 6 ^^^ turnF s.e 11 ^^^ turnF s.e 25) + ((s.e &&& s.f) ^^^ (~~~s.e &&& s.g)) + K.getD i 0 + wr.getD (63 - i) 0
def S8.step (K wr : List U32) (s : S8) (i : Nat) : S8 :=
  ⟨S8.tt K wr s i + (turnF s.a 2 ^^^ turnF s.a 13 ^^^ turnF s.a 22) + ((s.a &&& s.b) ^^^ (s.a &&& s.c) ^^^ (s.b &&& s.c)), s.a, s.b, s.c, s.d + S8.tt K wr s i, s.e, s.f, s.g⟩
def S8.run (K wr : List U32) (s : S8) : Nat → S8
  | 0 => s
  | i + 1 => S8.step K wr (S8.run K wr s i) i
def S8.ofL (H : List U32) : S8 := ⟨H.getD 0 0, H.getD 1 0, H.getD 2 0, H.getD 3 0, H.getD 4 0, H.getD 5 0, H.getD 6 0, H.getD 7 0⟩
theorem S8.run_get (K H : List U32) (b : List UInt8) : ∀ i, i ≤ 64 → ∀ j, j < 8 → (S8.run K (schedR b 64) (S8.ofL H) i).get j = mixV (fun j => K.getD j 0) (schedW b 64) (fun j => H.getD j 0) i j
  | 0, _, j, hj => by
      match j, hj with
      | 0, _ => rfl
      | 1, _ => rfl
      | 2, _ => rfl
      | 3, _ => rfl
      | 4, _ => rfl
      | 5, _ => rfl
      | 6, _ => rfl
      | 7, _ => rfl
  | i + 1, hi, j, hj => by
      have ih := S8.run_get K H b i (by omega)
      have a0 := ih 0 (by omega)
      have a1 := ih 1 (by omega)
      have a2 := ih 2 (by omega)
      have a3 := ih 3 (by omega)
      have a4 := ih 4 (by omega)
      have a5 := ih 5 (by omega)
      have a6 := ih 6 (by omega)
      have a7 := ih 7 (by omega)
      have hw := schedR_64 b i (by omega)
      unfold S8.run mixV
      generalize S8.run K (schedR b 64) (S8.ofL H) i = s at a0 a1 a2 a3 a4 a5 a6 a7
      generalize mixV (fun j => K.getD j 0) (schedW b 64) (fun j => H.getD j 0) i = v at a0 a1 a2 a3 a4 a5 a6 a7
      simp only [S8.get] at a0 a1 a2 a3 a4 a5 a6 a7
      match j, hj with
      | 0, _ => simp only [S8.get, S8.step, S8.tt, mixX, mixT, mixR, mixM, a0, a1, a2, a3, a4, a5, a6, a7, hw]
      | 1, _ => exact a0
      | 2, _ => exact a1
      | 3, _ => exact a2
      | 4, _ => simp only [S8.get, S8.step, S8.tt, mixX, mixT, mixR, mixM, a0, a1, a2, a3, a4, a5, a6, a7, hw]
      | 5, _ => exact a4
      | 6, _ => exact a5
      | 7, _ => exact a6
/-- A block mixed in, as a row. -/
def mixL (K H : List U32) (b : List UInt8) : List U32 :=
  let s := S8.run K (schedR b 64) (S8.ofL H) 64
  [H.getD 0 0 + s.a, H.getD 1 0 + s.b, H.getD 2 0 + s.c, H.getD 3 0 + s.d, H.getD 4 0 + s.e, H.getD 5 0 + s.f, H.getD 6 0 + s.g, H.getD 7 0 + s.h]
def wordsU (l : List U32) : List Value := l.map fun w => .int .u32 (.ofNat w.toNat)
theorem mixL_row (K H : List U32) (b : List UInt8) : wordsU (mixL K H b) = rowU (mixF (fun j => K.getD j 0) (fun j => H.getD j 0) b) 8 := by
  have h := S8.run_get K H b 64 (Nat.le_refl _)
  unfold mixL mixF
  generalize S8.run K (schedR b 64) (S8.ofL H) 64 = s at h
  have e : rowU (fun j => H.getD j 0 + mixV (fun j => K.getD j 0) (schedW b 64) (fun j => H.getD j 0) 64 j) 8 = rowU (fun j => H.getD j 0 + s.get j) 8 := rowU_congr fun j hj => by rw [h j hj]
  rw [e]; rfl

/-! ### rows of words and bytes, read -/
theorem u8V_of' {n : Nat} (h : n < 256) : u8V (UInt8.ofNat n) = .int .u8 (.ofNat n) := by
  unfold u8V
  have : (UInt8.ofNat n).toNat = n := by rw [UInt8.toNat_ofNat']; omega
  rw [this]; rfl
def toW : List Value → Option (List U32)
  | [] => some []
  | .int .u32 (.ofNat x) :: t => bif Nat.blt x 4294967296 then (toW t).map (BitVec.ofNat 32 x :: ·) else none
  | _ => none
def toB : List Value → Option (List UInt8)
  | [] => some []
  | .int .u8 (.ofNat x) :: t => bif Nat.blt x 256 then (toB t).map (UInt8.ofNat x :: ·) else none
  | _ => none
theorem toW_eq : ∀ {l : List Value} {w : List U32}, toW l = some w → l = wordsU w ∧ l.all isInt = true
  | [], w, h => by simp only [toW, Option.some.injEq] at h; subst h; exact ⟨rfl, rfl⟩
  | x :: t, w, h => by
      unfold toW at h
      split at h
      · rename_i e; cases e
      · rename_i n t' e
        cases e
        cases hb : Nat.blt n 4294967296 with
        | false => rw [hb] at h; cases h
        | true =>
          rw [hb] at h
          simp only [cond_true, Option.map_eq_some_iff] at h
          obtain ⟨w', h1, rfl⟩ := h
          obtain ⟨g1, g2⟩ := toW_eq h1
          have hn : n < 4294967296 := Nat.le_of_ble_eq_true hb
          refine ⟨?_, by simp only [List.all_cons, isInt, Bool.true_and]; exact g2⟩
          unfold wordsU
          rw [List.map_cons]
          have : (BitVec.ofNat 32 n).toNat = n := by simp; omega
          rw [this]
          unfold wordsU at g1
          rw [← g1]
      · cases h
theorem toB_eq : ∀ {l : List Value} {w : List UInt8}, toB l = some w → l = w.map u8V ∧ l.all isInt = true
  | [], w, h => by simp only [toB, Option.some.injEq] at h; subst h; exact ⟨rfl, rfl⟩
  | x :: t, w, h => by
      unfold toB at h
      split at h
      · rename_i e; cases e
      · rename_i n t' e
        cases e
        cases hb : Nat.blt n 256 with
        | false => rw [hb] at h; cases h
        | true =>
          rw [hb] at h
          simp only [cond_true, Option.map_eq_some_iff] at h
          obtain ⟨w', h1, rfl⟩ := h
          obtain ⟨g1, g2⟩ := toB_eq h1
          have hn : n < 256 := Nat.le_of_ble_eq_true hb
          refine ⟨?_, by simp only [List.all_cons, isInt, Bool.true_and]; exact g2⟩
          rw [List.map_cons]
          have : u8V (UInt8.ofNat n) = .int .u8 (.ofNat n) := u8V_of' hn
          rw [this, ← g1]
      · cases h
end Go.Bb
/- The reckoner with blocks mixed at once: it is sound. -/
namespace Go.Bb
set_option linter.unusedSimpArgs false
set_option linter.unusedVariables false
set_option maxRecDepth 20000

noncomputable def mixG (hs : Array Value) (a : Addr) (p : Addr) (m : VM) : RV :=
  match toW hs.toList, cellsE m a (64 * 1), cellsE m p 64 with
  | some H, some bs, some ks =>
    match toB bs, toW ks with
    | some B, some K => bif Nat.beq H.length 8 then some (.agg (wordsU (mixL K H B)).toArray, m) else none
    | _, _ => none
  | _, _, _ => none
noncomputable def mixH (args : List Value) (m : VM) : RV :=
  match args with
  | [.agg hs, .slice (some a) 64 c, .pointer (some p)] => mixG hs a p m
  | _ => none
noncomputable def mixHk : Hooks := fun n => bif Nat.beq n n_sha_mix then some mixH else none

theorem wordsU_row (l : List U32) : wordsU l = rowU (fun j => l.getD j 0) l.length := by
  apply List.ext_getElem
  · simp [wordsU, rowU]
  · intro j a b
    rw [rowU_get]
    have : j < l.length := by simpa [wordsU] using a
    simp [wordsU, this]

theorem VR.agg_ints {fid : Nat → Option FuncId} {r : Rr} {a : Array Value} {v' : Value} (h : VR fid r (.agg a) v') (hi : a.toList.all isInt = true) : v' = .agg a := by
  cases h with
  | one h =>
    cases h with
    | one h => cases h with | base h => cases h with | plain hp => cases hp
    | agg h =>
      have := all2_ints h hi
      rw [Array.toList_inj] at this
      rw [this]

theorem all2_refl_ints {fid : Nat → Option FuncId} {r : Rr} : ∀ {l : List Value}, l.all isInt = true → All2 (VR0 fid r) l l
  | [], _ => .nil
  | x :: l, h => by
      simp only [List.all_cons, Bool.and_eq_true] at h
      refine .cons ?_ (all2_refl_ints h.2)
      have h2 := h.1
      cases x <;> try (cases h2; done)
      exact .base (.plain rfl)
theorem wordsU_ints (l : List U32) : (wordsU l).all isInt = true := by simp [wordsU, isInt]
theorem HS.le {fid : Nat → Option FuncId} {h0 : Heap} {r : Rr} {m : VM} {h h' : Heap} (p : HS fid h0 r m h) (x : h.le h') : HS fid h0 r m h' where
  blk := fun b y hy => by obtain ⟨k, z, a, b', c⟩ := p.blk b y hy; exact ⟨k, z, a, x _ _ b', c⟩
  inj := p.inj
  old := fun b y hy => x _ _ (p.old b y hy)
  own := p.own
  fresh := p.fresh
  room := p.room

theorem mixHk_ok (E : EnvT tab) : HooksOk E.toEnv mixHk := by
  intro h0 n f hf
  unfold mixHk at hf
  cases hn : Nat.beq n n_sha_mix with
  | false => rw [hn] at hf; cases hf
  | true =>
    rw [hn] at hf
    simp only [cond_true, Option.some.injEq] at hf
    subst hf
    have hn' := Nat.eq_of_beq_eq_true hn
    subst hn'
    intro args m v m' r h args' p ha e
    unfold mixH at e
    split at e
    · rename_i hs a c q
      unfold mixG at e
      split at e
      · rename_i H bs ks e1 e2 e3
        split at e
        · rename_i B K e4 e5
          cases hl : Nat.beq H.length 8 with
          | false => rw [hl] at e; cases e
          | true =>
            rw [hl] at e
            simp only [cond_true, Option.some.injEq, Prod.mk.injEq] at e
            obtain ⟨rfl, rfl⟩ := e
            have hl8 := Nat.eq_of_beq_eq_true hl
            obtain ⟨g1, g1'⟩ := toW_eq e1
            obtain ⟨g2, g2'⟩ := toB_eq e4
            obtain ⟨g3, g3'⟩ := toW_eq e5
            cases ha with
            | cons a1 ha =>
              cases ha with
              | cons a2 ha =>
                cases ha with
                | cons a3 ha =>
                  cases ha
                  rw [a1.agg_ints g1']
                  obtain ⟨k, c', o, hsp, hk, rfl, hnc, q0, q1⟩ := a2.of_sl
                  obtain ⟨k2, c2, o2, _, hk2, hv2, l', hc1, hc2⟩ := sl_cells p.toHR a2 (Nat.le_refl 64) e2
                  simp only [Value.slice.injEq, Option.some.injEq, Addr.mk.injEq, true_and, and_true] at hv2
                  obtain ⟨⟨hb2, rfl⟩, rfl⟩ := hv2
                  rw [all2_ints hc2 g2', g2] at hc1
                  obtain ⟨kp, hps, hkp, rfl⟩ := a3.of_ptr
                  obtain ⟨lk, hk1, hk3⟩ := cells_sim p.toHR hkp e3
                  rw [all2_ints hk3 g3', g3] at hk1
                  have lB : B.length = 64 := by
                    have := hcells_length hc1
                    simpa using this
                  have lK : K.length = 64 := by
                    have := hcells_length hk1
                    simpa [wordsU] using this
                  have sb : SlB h (.slice (some ⟨k.b, o, none⟩) 64 c') B := by
                    unfold SlB
                    rw [lB]
                    refine .inr ⟨⟨k.b, o, none⟩, c', rfl, hnc, ?_⟩
                    rw [hb2]; exact hc1
                  rw [wordsU_row, lK] at hk1
                  have hsE : hs = (rowU (fun j => H.getD j 0) 8).toArray := by
                    apply Array.toList_inj.1
                    rw [g1, wordsU_row, hl8]
                  rw [hsE]
                  refine (sha_mix_c E h (fun j => H.getD j 0) (fun j => K.getD j 0) B (bk := kp.b) (ok := q.off + kp.sh) hk1 lB sb).mono ?_
                  rintro v' h' ⟨le', rfl⟩
                  refine ⟨r, Rr.le_refl _, p.le le', ?_⟩
                  rw [← mixL_row]
                  exact .one (.agg (all2_refl_ints (wordsU_ints _)))
        · cases e
      · cases e
    · cases e
end Go.Bb
/- Law 22's example awake, by reckoning. -/
namespace Go.Bb
set_option maxRecDepth 100000
theorem pk22a : isTrue (evF tab mixHk 1000 50 n_bandboxlaw22_awake [] VM.start) = true := by decide +kernel
theorem law22_awake_k (E : EnvT tab) (h : Heap) : ACallN E.toEnv n_bandboxlaw22_awake [] h fun v h' => v = .bool true ∧ h.le h' := evF_true (mixHk_ok E) _ pk22a
end Go.Bb
/- The law EpochRings. -/
namespace Go.Bb
set_option linter.unusedSimpArgs false
set_option linter.unusedVariables false
set_option maxRecDepth 20000
set_option maxHeartbeats 2000000

def word1 (x : UInt8) : List UInt8 := x :: List.replicate 31 0
theorem word1_len (x : UInt8) : (word1 x).length = 32 := rfl
/-- Two rings alike, side by side. -/
def P2 (h1 H : Heap) (p w : Nat) (L : RL) : Prop := ∃ h0, h1.le h0 ∧ h1 w = none ∧ h0.le H ∧ RingR h0 H (.pointer (some ⟨p, 0, none⟩)) L ∧ WG h0 w L
structure LOk (i : Nat) (L : RL) : Prop where
  l32 : ∀ x ∈ L, x.2.length = 32
  rng : ∀ y ∈ L, 0 ≤ y.1 ∧ y.1 ≤ 1099511627776
  len : L.length ≤ i
theorem LOk.put {i : Nat} {L : RL} (I : LOk i L) (k : Int) {wd : List UInt8} (hw : wd.length = 32) : LOk (i + 1) (putF L k wd).1 := by
  have I1 : LOk (i + 1) L := ⟨I.l32, I.rng, by have := I.len; omega⟩
  unfold putF
  split
  · rename_i g
    split
    · split
      · exact I1
      · exact I1
    · split
      · exact I1
      · refine ⟨fun x hx => ?_, fun x hx => ?_, by have := I.len; simp; omega⟩
        · rcases List.mem_append.1 hx with hx | hx
          · exact I.l32 x hx
          · rw [List.mem_singleton] at hx; subst hx; exact hw
        · rcases List.mem_append.1 hx with hx | hx
          · exact I.rng x hx
          · rw [List.mem_singleton] at hx; subst hx; exact g
  · exact I1
theorem P2.le {h1 H H' : Heap} {p w : Nat} {L : RL} (P : P2 h1 H p w L) (le : H.le H') : P2 h1 H' p w L := by
  obtain ⟨h0, a, b, c, d, e⟩ := P
  exact ⟨h0, a, b, Heap.le_trans c le, d.le le, e⟩
theorem P2.put (E : EnvT tab) {h1 H : Heap} {p w : Nat} {L : RL} (P : P2 h1 H p w L) {i : Nat} (I : LOk i L) (hi : i ≤ 1000) (k : Int) {wd : List UInt8} (hw : wd.length = 32) :
    ACallN E.toEnv n_epoch_Ring_Put [.pointer (some ⟨p, 0, none⟩), .int .i64 k, .agg (wd.map u8V).toArray] H fun r H1 => r = .int .i64 ((putF L k wd).2 : Nat) ∧ h1.le H1 ∧
      ACallN E.toEnv n_bandboxref19_Ring_Put [.pointer (some ⟨w, 0, none⟩), .int .i64 k, .agg (wd.map u8V).toArray] H1 fun r H2 => r = .int .i64 ((putF L k wd).2 : Nat) ∧ P2 h1 H2 p w (putF L k wd).1 := by
  obtain ⟨h0, le0, hw0, leH, R, G⟩ := P
  refine (epoch_Put_c E leH R I.l32 k wd hw).mono ?_
  rintro r H1 ⟨le1, rfl, R1⟩
  refine ⟨rfl, Heap.le_trans le0 le1, ?_⟩
  refine (ref_Put_c E (G.le le1) I.l32 (by have := I.len; omega) k wd hw).mono ?_
  rintro r H2 ⟨rfl, hm⟩
  refine ⟨rfl, ?_⟩
  rcases hm with ⟨le2, e⟩ | ⟨lv, q, ow, keep⟩
  · rw [e] at R1 ⊢
    exact ⟨h0, le0, hw0, Heap.le_trans le1 le2, R1.le le2, G⟩
  · obtain ⟨lv0, qw, -⟩ := G
    refine ⟨fun c => if h0 c = none ∧ H1 c ≠ none then none else H2 c, ?_, hw0, ?_, ?_, lv, ?_, ?_⟩
    · intro c x hx
      have h2 := le0 _ _ hx
      have hc : c ≠ w := by intro e; subst e; rw [hw0] at hx; cases hx
      simp only
      rw [if_neg (by rw [h2]; simp)]
      exact keep c x hc (le1 _ _ h2)
    · intro c x hx
      simp only at hx
      split at hx
      · cases hx
      · exact hx
    · obtain ⟨b, r, es, cc, e1, e2, e3, e4, e5, e6, e7, e8⟩ := R1
      have hb : b ≠ w := by intro e; subst e; rw [qw] at e2; cases e2
      have hr : r ≠ w := by intro e; subst e; rw [qw] at e3; cases e3
      exact ⟨b, r, es, cc, e1, by simp [e2, e5], by simp [e3, e6], e4, keep _ _ hb e5, keep _ _ hr e6, e7, e8⟩
    · simp only
      rw [if_neg (by rw [qw]; simp)]; exact q
    · have : Ow H1 (fun c => if h0 c = none ∧ H1 c ≠ none then none else H2 c) 33 lv (putF L k wd).1.length ((putF L k wd).1.flatMap cellK) := by
        rcases ow with s | ⟨b, o, c, sz, st, pre, rest, p1, p2, p3, p4, p5⟩
        · exact .inl s
        · refine .inr ⟨b, o, c, sz, st, pre, rest, p1, p2, p3, ?_, p5⟩
          simp only
          rw [if_neg (by rw [p3]; simp)]
          exact p4
      exact this.sl
theorem set_mono {a b : Heap} (h : a.le b) (c : Nat) (X : Blk) : (a.set c X).le (b.set c X) := by
  intro i x hx
  by_cases e : i = c
  · subst e; rw [Heap.set_self] at hx ⊢; exact hx
  · rw [Heap.set_ne e] at hx ⊢; exact h _ _ hx
theorem P2.box {h1 H : Heap} {p w : Nat} {L : RL} (P : P2 h1 H p w L) {b : Nat} (hb : H b = none) (X : Blk) : P2 (h1.set b X) (H.set b X) p w L := by
  obtain ⟨h0, a, c, d, R, lv, q, s⟩ := P
  have hw : w ≠ b := by intro e; subst e; have := d _ _ q; rw [hb] at this; cases this
  refine ⟨h0.set b X, set_mono a b X, by rw [Heap.set_ne hw]; exact c, set_mono d b X, ?_, WG.le ⟨lv, q, s⟩ (Heap.le_set (Heap.le_refl _) (Heap.none_of_le d hb) _)⟩
  obtain ⟨b1, r, es, cc, e1, e2, e3, e4, e5, e6, e7, e8⟩ := R
  have hb1 : b1 ≠ b := by intro e; subst e; rw [hb] at e5; cases e5
  have hr : r ≠ b := by intro e; subst e; rw [hb] at e6; cases e6
  exact ⟨b1, r, es, cc, e1, by rw [Heap.set_ne hb1]; exact e2, by rw [Heap.set_ne hr]; exact e3, e4, by rw [Heap.set_ne hb1]; exact e5, by rw [Heap.set_ne hr]; exact e6, e7, e8⟩
theorem P2.down {h1 h1' H : Heap} {p w : Nat} {L : RL} (P : P2 h1' H p w L) (le : h1.le h1') : P2 h1 H p w L := by
  obtain ⟨h0, a, c, d, R⟩ := P
  exact ⟨h0, Heap.le_trans le a, Heap.none_of_le le c, d, R⟩
theorem P2.get (E : EnvT tab) {h1 H : Heap} {p w : Nat} {L : RL} (P : P2 h1 H p w L) {i : Nat} (I : LOk i L) (k : Int) :
    ACallN E.toEnv n_epoch_Ring_Get [.pointer (some ⟨p, 0, none⟩), .int .i64 k] H fun r h' => H.le h' ∧ r = .tuple #[.agg (((getK L k).getD (List.replicate 32 0)).map u8V).toArray, .bool (getK L k).isSome] := by
  obtain ⟨h0, a, c, d, R, G⟩ := P
  exact epoch_Get_c E d R I.l32 k
theorem last_one {L : RL} {m n : Int} (a : lastK L m) (b : lastK L n) : m = n := by
  obtain ⟨⟨y, hy, rfl⟩, h1⟩ := a
  obtain ⟨⟨z, hz, rfl⟩, h2⟩ := b
  have := h1 z hz
  have := h2 y hy
  omega
end Go.Bb
/- The reckoner, for calls of numbers that tell a text. -/
namespace Go.Bb
set_option linter.unusedSimpArgs false
set_option linter.unusedVariables false
section
variable {tab : Nat → Option (Hint × AFunc)} {lf : Nat} {E : EnvT tab}
end
end Go.Bb
/- The reckoner, for calls of numbers and rows of numbers that tell such. -/
namespace Go.Bb
set_option linter.unusedSimpArgs false
set_option linter.unusedVariables false
section
variable {tab : Nat → Option (Hint × AFunc)} {lf : Nat} {E : EnvT tab}
def simpleV : Value → Bool
  | .agg a => a.toList.all isInt
  | v => Bb.plain v
theorem ints0_refl {fid : Nat → Option FuncId} {r : Rr} : ∀ {l : List Value}, l.all isInt = true → All2 (VR0 fid r) l l
  | [], _ => .nil
  | v :: l, h => by
      simp only [List.all_cons, Bool.and_eq_true] at h
      refine .cons ?_ (ints0_refl h.2)
      have h1 := h.1
      cases v <;> try (cases h1; done)
      exact .base (.plain rfl)
theorem simple_refl {fid : Nat → Option FuncId} {r : Rr} : ∀ {l : List Value}, l.all simpleV = true → All2 (VR fid r) l l
  | [], _ => .nil
  | v :: l, h => by
      simp only [List.all_cons, Bool.and_eq_true] at h
      refine .cons ?_ (simple_refl h.2)
      have h1 := h.1
      cases v <;> first | (exact .one (.agg (ints0_refl h1))) | (exact .one (.one (.base (.plain h1))))
theorem VR1.of_ints {fid : Nat → Option FuncId} {r : Rr} {a : Array Value} {v' : Value} (h : VR1 fid r (.agg a) v') (hi : a.toList.all isInt = true) : v' = .agg a := by
  cases h with
  | one h => cases h with | base h => cases h with | plain hp => cases hp
  | agg h => rw [← Array.toList_inj.1 (all2_ints h hi)]
theorem VR1.of_int {fid : Nat → Option FuncId} {r : Rr} {k : IntKind} {n : Int} {v' : Value} (h : VR1 fid r (.int k n) v') : v' = .int k n := by
  cases h with | one h => cases h with | base h => cases h; rfl
def isRow (x : Option (Value × VM)) (us : List Value) (e : Int) : Bool :=
  match x with
  | some (.tuple a, _) => (match a.toList with | [.agg b, .int .i64 e'] => sameL b.toList us && us.all isInt && e' == e | _ => false)
  | _ => false
theorem evF_row {hk : Hooks} (hko : HooksOk E.toEnv hk) {d n : Nat} {args : List Value} (ha : args.all simpleV = true) (h : Heap) {us : List Value} {c : Int} (e : isRow (evF tab hk lf d n args VM.start) us c = true) : ACallN E.toEnv n args h fun v h' => h.le h' ∧ v = .tuple #[.agg us.toArray, .int .i64 c] := by
  cases hx : evF tab hk lf d n args VM.start with
  | none => rw [hx] at e; cases e
  | some y =>
    obtain ⟨v, m⟩ := y
    rw [hx] at e
    unfold isRow at e
    split at e
    · rename_i a m' h1
      simp only [Option.some.injEq, Prod.mk.injEq] at h1
      obtain ⟨rfl, rfl⟩ := h1
      split at e
      · rename_i b e' hb
        simp only [Bool.and_eq_true, beq_iff_eq] at e
        obtain ⟨⟨e1, e2⟩, rfl⟩ := e
        have hbu := sameL_ints e1 e2
        refine (evF_ok (h0 := h) (lf := lf) E.full hko d n args VM.start _ m _ h args (start_hs h _) (simple_refl ha) hx).mono ?_
        rintro v' h' ⟨r', _, p', hv'⟩
        refine ⟨p'.old, ?_⟩
        cases hv' with
        | one hv' => cases hv' with | one hv' => cases hv' with | base hv' => cases hv' with | plain hp => cases hp
        | tup hv' =>
          rename_i a'
          rw [hb] at hv'
          cases hl : a'.toList with
          | nil => rw [hl] at hv'; cases hv'
          | cons x l =>
            rw [hl] at hv'
            cases hv' with
            | cons g1 g2 =>
              cases g2 with
              | cons g3 g4 =>
                cases g4
                have q1 := g1.of_ints (by rw [hbu]; exact e2)
                have q2 := g3.of_int
                subst q1 q2
                have : a' = #[.agg b, .int .i64 e'] := Array.toList_inj.1 hl
                rw [this, ← hbu]
      · cases e
    · cases e
theorem evF_aggA {hk : Hooks} (hko : HooksOk E.toEnv hk) {d n : Nat} {args : List Value} (ha : args.all simpleV = true) (h : Heap) {us : List Value} (e : isAgg (evF tab hk lf d n args VM.start) us = true) : ACallN E.toEnv n args h fun v h' => h.le h' ∧ v = .agg us.toArray := by
  cases hx : evF tab hk lf d n args VM.start with
  | none => rw [hx] at e; cases e
  | some y =>
    obtain ⟨v, m⟩ := y
    rw [hx] at e
    unfold isAgg at e
    split at e
    · rename_i a m' h1
      simp only [Option.some.injEq, Prod.mk.injEq] at h1
      obtain ⟨rfl, rfl⟩ := h1
      simp only [Bool.and_eq_true] at e
      have hbu := sameL_ints e.1 e.2
      refine (evF_ok (h0 := h) (lf := lf) E.full hko d n args VM.start _ m _ h args (start_hs h _) (simple_refl ha) hx).mono ?_
      rintro v' h' ⟨r', _, p', hv'⟩
      refine ⟨p'.old, ?_⟩
      cases hv' with
      | one hv' =>
        rw [hv'.of_ints (by rw [hbu]; exact e.2), ← hbu]
    · cases e
end
end Go.Bb
