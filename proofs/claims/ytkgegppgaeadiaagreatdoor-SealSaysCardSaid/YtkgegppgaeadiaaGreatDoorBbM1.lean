/- My contracts: BbW32 BbUj BbCegd BbUl BbUk BbUtl BbUq BbSrn BbSdr BbRng2 BbCoct BbCbig BbPsha BbCoct2 BbRow BbPref4 BbCoct3 BbCmul BbCpoly0 BbCpoly1 BbCpoly2 BbCpoly3 BbCoct4 BbCpoly4 BbCslc BbCpoly5 BbLpoly2. -/
import Derived.Test.YtkgegppgaeadiaaGreatDoorBbG3
import Derived.Test.YtkgegppgaeadiaaGreatDoorBbTab
namespace Go.Bb
set_option linter.unusedSimpArgs false
set_option linter.unusedVariables false
set_option maxHeartbeats 2000000
set_option maxRecDepth 20000
abbrev U32 := BitVec 32
abbrev U64 := BitVec 64
def u8V (b : UInt8) : Value := .int .u8 b.toNat
def u64V (x : U64) : Value := .int .u64 x.toNat
theorem qf3 (n : Int) : IntKind.u32.wrap n = ((BitVec.ofInt 32 n).toNat : Int) := by
  simp only [IntKind.wrap, IntKind.bits, IntKind.signed, BitVec.toNat_ofInt]
  simp
  omega
theorem qb7 (n : Int) : IntKind.u64.wrap n = ((BitVec.ofInt 64 n).toNat : Int) := by
  simp only [IntKind.wrap, IntKind.bits, IntKind.signed, BitVec.toNat_ofInt]
  simp
  omega
theorem qob (n : Int) : IntKind.u8.wrap n = ((BitVec.ofInt 8 n).toNat : Int) := by
  simp only [IntKind.wrap, IntKind.bits, IntKind.signed, BitVec.toNat_ofInt]
  simp
  omega
theorem q1d (w n : Nat) : BitVec.ofInt w (n : Int) = BitVec.ofNat w n := by simp
theorem q2l {w : Nat} (x : BitVec w) : BitVec.ofInt w (x.toNat : Int) = x := by rw [q1d]; simp
section
variable (x y : U32) (n : Nat)
theorem qby : IntKind.u32.wrap ((x.toNat : Int) + (y.toNat : Int)) = ((x + y).toNat : Int) := by
  rw [qf3]; congr 1
theorem qgd : IntKind.u32.wrap ((BitVec.ofInt IntKind.u32.bits (x.toNat : Int) ^^^ BitVec.ofInt IntKind.u32.bits (y.toNat : Int)).toNat : Int) = ((x ^^^ y).toNat : Int) := by
  rw [show IntKind.u32.bits = 32 from rfl, q2l, q2l, qf3, q2l]
theorem u32_or : IntKind.u32.wrap ((BitVec.ofInt IntKind.u32.bits (x.toNat : Int) ||| BitVec.ofInt IntKind.u32.bits (y.toNat : Int)).toNat : Int) = ((x ||| y).toNat : Int) := by
  rw [show IntKind.u32.bits = 32 from rfl, q2l, q2l, qf3, q2l]
theorem qyb (h : n ≤ 32) : IntKind.u32.wrap ((x.toNat : Int) * 2 ^ (min n IntKind.u32.bits)) = ((x <<< n).toNat : Int) := by
  rw [show IntKind.u32.bits = 32 from rfl, Nat.min_eq_left h, qf3]
  have : ((x.toNat : Int) * 2 ^ n) = ((x.toNat * 2 ^ n : Nat) : Int) := by simp
  rw [this, q1d]
  simp [BitVec.toNat_shiftLeft, Nat.shiftLeft_eq]
theorem qya (h : n ≤ 32) : ((x.toNat : Int).fdiv (2 ^ (min n IntKind.u32.bits))) = ((x >>> n).toNat : Int) := by
  rw [show IntKind.u32.bits = 32 from rfl, Nat.min_eq_left h, Int.fdiv_eq_ediv_of_nonneg _ (Int.le_of_lt (Int.pow_pos (by omega)))]
  simp [BitVec.toNat_ushiftRight, Nat.shiftRight_eq_div_pow]
theorem qy8 : IntKind.u64.wrap (x.toNat : Int) = ((x.setWidth 64).toNat : Int) := by
  rw [qb7, q1d]; simp
theorem qy4 (z : U64) : IntKind.u32.wrap (z.toNat : Int) = ((z.setWidth 32).toNat : Int) := by
  rw [qf3, q1d]; simp
end
section
variable (x y : U64) (n : Nat)
theorem u64_and : IntKind.u64.wrap ((BitVec.ofInt IntKind.u64.bits (x.toNat : Int) &&& BitVec.ofInt IntKind.u64.bits (y.toNat : Int)).toNat : Int) = ((x &&& y).toNat : Int) := by
  rw [show IntKind.u64.bits = 64 from rfl, q2l, q2l, qb7, q2l]
theorem u64_or : IntKind.u64.wrap ((BitVec.ofInt IntKind.u64.bits (x.toNat : Int) ||| BitVec.ofInt IntKind.u64.bits (y.toNat : Int)).toNat : Int) = ((x ||| y).toNat : Int) := by
  rw [show IntKind.u64.bits = 64 from rfl, q2l, q2l, qb7, q2l]
theorem qy7 (h : n ≤ 64) : IntKind.u64.wrap ((x.toNat : Int) * 2 ^ (min n IntKind.u64.bits)) = ((x <<< n).toNat : Int) := by
  rw [show IntKind.u64.bits = 64 from rfl, Nat.min_eq_left h, qb7]
  have : ((x.toNat : Int) * 2 ^ n) = ((x.toNat * 2 ^ n : Nat) : Int) := by simp
  rw [this, q1d]
  simp [BitVec.toNat_shiftLeft, Nat.shiftLeft_eq]
theorem qrh (h : n ≤ 64) : ((x.toNat : Int).fdiv (2 ^ (min n IntKind.u64.bits))) = ((x >>> n).toNat : Int) := by
  rw [show IntKind.u64.bits = 64 from rfl, Nat.min_eq_left h, Int.fdiv_eq_ediv_of_nonneg _ (Int.le_of_lt (Int.pow_pos (by omega)))]
  simp [BitVec.toNat_ushiftRight, Nat.shiftRight_eq_div_pow]
theorem u8_u64 (b : UInt8) : IntKind.u64.wrap (b.toNat : Int) = ((BitVec.ofNat 64 b.toNat).toNat : Int) := by
  rw [qb7, q1d]
theorem qw0 (z : U64) : IntKind.u8.wrap (z.toNat : Int) = ((UInt8.ofNat z.toNat).toNat : Int) := by
  rw [qob, q1d]; simp
end
theorem q5t {n c : Nat} {k : IntKind} {z : Int} (h0 : 0 ≤ z) (h1 : z ≤ c) : bnds n c none (some (some (.int k z))) none = some (0, z.toNat, c) := by
  simp [bnds, bndV, h0, h1]
theorem qb4 {n c : Nat} {k : IntKind} {z : Int} (h0 : 0 ≤ z) (h1 : z ≤ n) : bnds n c (some (some (.int k z))) none none = some (z.toNat, n, c) := by
  simp [bnds, bndV, h0, h1]
theorem qho {n c : Nat} {k k' : IntKind} {y z : Int} (h0 : 0 ≤ y) (h1 : y ≤ z) (h2 : z ≤ c) : bnds n c (some (some (.int k y))) (some (some (.int k' z))) none = some (y.toNat, z.toNat, c) := by
  have hz : 0 ≤ z := by omega
  have : y ≤ (z.toNat : Int) := by omega
  have h3 : y ≤ max z 0 := by omega
  simp [bnds, bndV, h0, hz, h2, h1, h3]
theorem qeg {n c : Nat} : bnds n c none none none = some (0, n, c) := by simp [bnds, bndV]
theorem qfz (b o n : Nat) : (⟨b, o, none⟩ : Addr).add n = ⟨b, o + n, none⟩ := by
  unfold Addr.add; split
  · rename_i h; subst h; rfl
  · rfl
theorem Sl.pre {h : Heap} {size n c : Nat} {base : Option Addr} {cells : List Value} (s : Sl h size (.slice base n c) n cells) {k : Nat} (hk : k ≤ n) : Sl h size (.slice base k c) k (cells.take (k * size)) := by
  have hm : k * size ≤ n * size := Nat.mul_le_mul_right _ hk
  rcases s with ⟨e, rfl, rfl⟩ | ⟨a, c', e, h2, h3⟩
  · simp only [Value.slice.injEq] at e
    obtain ⟨rfl, _, rfl⟩ := e
    have : k = 0 := by omega
    subst this
    exact .inl ⟨rfl, rfl, by simp⟩
  · simp only [Value.slice.injEq] at e
    obtain ⟨rfl, _, rfl⟩ := e
    refine .inr ⟨a, c, rfl, by omega, ?_⟩
    by_cases hz : k * size = 0
    · rw [hz]; simp [q05]
    · have := qfl h3 (by omega)
      rw [this] at h3 ⊢
      have := qew h3 0 (k * size) (by omega)
      simpa using this
theorem Sl.post {h : Heap} {size n c : Nat} {base : Option Addr} {cells : List Value} (s : Sl h size (.slice base n c) n cells) {k : Nat} (hk : k ≤ n) :
    Sl h size (.slice (if c = k then base else base.map fun x => x.add (k * size)) (n - k) (c - k)) (n - k) (cells.drop (k * size)) := by
  have hm : k * size ≤ n * size := Nat.mul_le_mul_right _ hk
  rcases s with ⟨e, rfl, rfl⟩ | ⟨a, c', e, h2, h3⟩
  · simp only [Value.slice.injEq] at e
    obtain ⟨rfl, _, rfl⟩ := e
    have : k = 0 := by omega
    subst this
    exact .inl ⟨by simp, rfl, by simp⟩
  · simp only [Value.slice.injEq] at e
    obtain ⟨rfl, _, rfl⟩ := e
    have hl := q54 h3
    by_cases hck : c = k
    · have hnk : n - k = 0 := by omega
      refine .inr ⟨a, c - k, by simp [hck], by omega, ?_⟩
      rw [hnk, Nat.zero_mul]
      simp only [q05, Option.some.injEq]
      rw [List.drop_eq_nil_of_le]
      have : n = k := by omega
      subst this; omega
    · refine .inr ⟨a.add (k * size), c - k, by simp [hck], by omega, ?_⟩
      by_cases hz : (n - k) * size = 0
      · rw [hz]
        simp only [q05, Option.some.injEq]
        rw [List.drop_eq_nil_of_le]
        rw [Nat.sub_mul] at hz; omega
      · rw [Nat.sub_mul] at hz ⊢
        have := qfl h3 (by omega)
        rw [this] at h3
        rw [this, qfz]
        have := qew h3 (k * size) (n * size - k * size) (by omega)
        rw [this]
        congr 1
        rw [List.take_of_length_le]
        simp [hl]
theorem qd3 {size b o n c m sz : Nat} {h : Heap} {v : Value} {vs cells : List Value} {K : Value → Heap → Prop} (hb : h b = some (.own 0 vs sz)) (hsz : vs.length ≤ sz) (ho : o + n * size ≤ vs.length) (s : Sl h size v m cells) (h1 : cells.all one = true)
    (hk : K (.int .i64 (min m n : Nat)) (h.set b (.own 0 (q1t vs o (cells.take (min m n * size))) sz))) : qxl size h (.slice (some ⟨b, o, none⟩) n c) v K := by
  have hst : ∀ us : List Value, us.length ≤ n * size → q5j h ⟨b, o, none⟩ us = some (h.set b (.own 0 (q1t vs o us) sz)) := by
    intro us hus
    cases us with
    | nil =>
      simp only [q5j, Option.some.injEq]
      have : q1t vs o [] = vs := by simp [q1t]
      rw [this, Heap.qad hb]
    | cons u us =>
      simp only [q5j, hb]
      rw [if_pos ⟨Nat.zero_le _, by omega, by simp at hus ⊢; omega⟩, Nat.sub_zero]
  rcases s with ⟨rfl, rfl, rfl⟩ | ⟨a, c', rfl, h2, h3⟩
  · simp only [qxl]
    simp only [Nat.zero_min, Nat.zero_mul, List.take_nil] at hk
    have : q1t vs o [] = vs := by simp [q1t]
    rw [this, Heap.qad hb] at hk
    exact ⟨trivial, hk⟩
  · have hl := q54 h3
    have hmn : min m n * size ≤ m * size := Nat.mul_le_mul_right _ (Nat.min_le_left _ _)
    have hmn2 : min m n * size ≤ n * size := Nat.mul_le_mul_right _ (Nat.min_le_right _ _)
    have h4 : q05 h a (min m n * size) = some (cells.take (min m n * size)) := by
      by_cases hz : min m n * size = 0
      · rw [hz]; simp [q05]
      · have := qfl h3 (by omega)
        rw [this] at h3 ⊢
        have := qew h3 0 (min m n * size) (by omega)
        simpa using this
    simp only [qxl, h4, hst _ (show (cells.take (min m n * size)).length ≤ n * size by rw [List.length_take]; omega)]
    refine ⟨fun u hu => List.all_eq_true.1 h1 u (List.mem_of_mem_take hu), hk⟩
def strV (l : List UInt8) : Value := .string ⟨l.toArray⟩
theorem qr6 : ∀ l : List UInt8, qlm (l.map fun b => Value.int .u8 b.toNat) = some l
  | [] => rfl
  | b :: l => by simp [qlm, qr6 l]
theorem q7y {h : Heap} {v : Value} {l : List UInt8} (s : Sl h 1 v l.length (l.map u8V)) : qss h v = some (strV l) := by
  rcases s with ⟨rfl, hn, _⟩ | ⟨a, c, rfl, h2, h3⟩
  · have : l = [] := List.eq_nil_of_length_eq_zero hn
    subst this; rfl
  · rw [Nat.mul_one] at h3
    simp only [qss, h3]
    have := qr6 l
    unfold u8V
    rw [this]; rfl
theorem qel (l : List UInt8) : (⟨l.toArray⟩ : ByteArray).toList = l := by
  exact Go.ByteArray.toList_mk l
theorem qu0 (E : EnvT tab) (h : Heap) (n : Int) : ACallN E.toEnv qtl [.int .i64 n] h fun r h' => h' = h ∧ r = .bool (decide (0 ≤ n ∧ n ≤ 1099511627776)) := by
  refine q0o qhg qcl rfl rfl (q03 ?_)
  unfold qcl
  by_cases g0 : 0 ≤ n
  · by_cases g1 : n ≤ 1099511627776
    · simp -implicitDefEqProofs only [zA,reduceCtorEq,Nat.reduceEqDiff,g0,g1]
    · simp -implicitDefEqProofs only [zA,reduceCtorEq,Nat.reduceEqDiff,g0,g1]
  · simp -implicitDefEqProofs only [zA,reduceCtorEq,Nat.reduceEqDiff,g0,false_and]
abbrev SlB (h : Heap) (v : Value) (l : List UInt8) : Prop := Sl h 1 v l.length (l.map u8V)
abbrev OwB (h0 h : Heap) (v : Value) (l : List UInt8) : Prop := Ow h0 h 1 v l.length (l.map u8V)
theorem q1i (l : List UInt8) : (l.map u8V).all one = true := by simp [u8V, one]
theorem q0w {n : Int} (h0 : -9223372036854775808 ≤ n) (h1 : n ≤ 9223372036854775807) : IntKind.i64.wrap n = n := by
  simp [IntKind.wrap, IntKind.bits, IntKind.signed]; omega
theorem q2k {n : Nat} (h1 : n ≤ 9223372036854775806) : IntKind.i64.wrap ((n : Int) + 1) = ((n + 1 : Nat) : Int) := by rw [q0w (by omega) (by omega)]; rfl
theorem Sl.q7x {h : Heap} {v : Value} {l : List UInt8} (s : SlB h v l) (j : Nat) (hj : j < l.length) :
    ∃ b o c, v = .slice (some ⟨b, o, none⟩) l.length c ∧ l.length ≤ c ∧ ∀ H, h.le H → q0x H ⟨b, o + j, none⟩ = some (u8V l[j]) := by
  obtain ⟨b, o, c, hv, hc, hcl⟩ := s.ptr (by omega) (by omega)
  refine ⟨b, o, c, hv, hc, fun H hle => ?_⟩
  rw [Nat.mul_one] at hcl
  rw [qi9 (q22 hle hcl) j hj]
  simp [hj]
theorem qiy {α β : Type} (f : α → β) : ∀ L : List α, (L.flatMap fun x => [f x]) = L.map f
  | [] => rfl
  | x :: L => by simp [qiy f L]
theorem u8V_of {n : Int} (h0 : 0 ≤ n) (h1 : n ≤ 255) : u8V (UInt8.ofNat n.toNat) = .int .u8 n := by
  unfold u8V
  have : (UInt8.ofNat n.toNat).toNat = n.toNat := by rw [UInt8.toNat_ofNat']; omega
  rw [this]; congr 1; omega
theorem qwb {W : World} {v : Value} (h : Shp.ok W (.slice 1 (.int .u8)) v) : ∃ l : List UInt8, SlB (qgg W) v l ∧ l.length ≤ 9223372036854775807 := by
  obtain ⟨L, h1, h2, h3⟩ := Shp.ok_rows (f := fun b : UInt8 => [u8V b]) (Pr := fun _ => True) (fun _ => rfl) (fun l hl => by
    obtain ⟨n, rfl, a, b⟩ := hl
    exact ⟨UInt8.ofNat n.toNat, by rw [u8V_of (by simpa [IntKind.min, IntKind.signed] using a) (by simpa [IntKind.max, IntKind.signed, IntKind.bits] using b)], trivial⟩) h
  refine ⟨L, ?_, h2⟩
  rw [qiy] at h1
  exact h1
theorem qgu : ∀ l : List UInt8, q0n (List.replicate l.length (some IntKind.u8)) (l.map u8V) = true
  | [] => rfl
  | b :: l => by
      have := qgu l
      rw [List.length_cons, List.replicate_succ, List.map_cons, q0n, this, Bool.and_true]
      rfl
theorem qjp : ∀ l : List UInt8, q0s (l.map u8V) (l.map u8V) = true
  | [] => rfl
  | b :: l => by
      have := qjp l
      rw [List.map_cons, q0s, this, Bool.and_true]
      simp [u8V, qet]
theorem qgv : ∀ l m : List UInt8, l.length = m.length → q0s (l.map u8V) (m.map u8V) = decide (l = m)
  | [], [], _ => rfl
  | [], _ :: _, h => by simp at h
  | _ :: _, [], h => by simp at h
  | a :: l, b :: m, h => by
      have := qgv l m (by simpa using h)
      simp only [List.map_cons, q0s, this, u8V, qet]
      by_cases e : a = b
      · subst e; simp
      · have : ¬ (a.toNat : Int) = b.toNat := fun q => e (UInt8.toNat_inj.1 (by omega))
        simp [this, e]
theorem Sl.qwu {h : Heap} {base : Option Addr} {c a b : Nat} {l : List UInt8} (s : SlB h (.slice base l.length c) l) (hab : a ≤ b) (hb : b ≤ l.length) : SlB h (.slice (if c = a then base else base.map fun x => x.add a) (b - a) (c - a)) ((l.drop a).take (b - a)) := by
  have s1 := Sl.post s (k := a) (by omega)
  simp only [Nat.mul_one] at s1
  have s2 := Sl.pre s1 (k := b - a) (by omega)
  rw [Nat.mul_one, ← List.map_drop, ← List.map_take] at s2
  have e : ((l.drop a).take (b - a)).length = b - a := by simp; omega
  unfold SlB
  rw [e]; exact s2
theorem Ow.off {h0 h : Heap} {bs : Nat} {X : Blk} {size n : Nat} {v : Value} {cells : List Value} (s : Ow (h0.set bs X) h size v n cells) (X' : Blk) : Ow (h0.set bs X') h size v n cells := by
  rcases s with s | ⟨b, o, c, sz, st, pre, rest, h1, h2, h3, h4⟩
  · exact .inl s
  · obtain ⟨g1, g2⟩ := Heap.q0b.1 h3
    exact .inr ⟨b, o, c, sz, st, pre, rest, h1, h2, Heap.q0b.2 ⟨g1, g2⟩, h4⟩
theorem Ow.put {h0 h : Heap} {bs : Nat} {X : Blk} {size n : Nat} {v : Value} {cells : List Value} (s : Ow (h0.set bs X) h size v n cells) (Y : Blk) : Ow (h0.set bs X) (h.set bs Y) size v n cells := by
  rcases s with s | ⟨b, o, c, sz, st, pre, rest, h1, h2, h3, h4, h5⟩
  · exact .inl s
  · obtain ⟨g1, g2⟩ := Heap.q0b.1 h3
    exact .inr ⟨b, o, c, sz, st, pre, rest, h1, h2, h3, by rw [Heap.q0d g1]; exact h4, h5⟩
theorem Ow.post {h0 h : Heap} {size b o n c : Nat} {cells : List Value} (s : Ow h0 h size (.slice (some ⟨b, o, none⟩) n c) n cells) {k : Nat} (hk : k ≤ n) :
    Ow h0 h size (.slice (if c = k then some ⟨b, o, none⟩ else some (Addr.add ⟨b, o, none⟩ (k * size))) (n - k) (c - k)) (n - k) (cells.drop (k * size)) := by
  by_cases hck : c = k
  · rw [if_pos hck]
    rcases s with ⟨e, _, _⟩ | ⟨b', o', c', sz, st, pre, rest, h1, h2, h3, h4, h5, h6, h7⟩
    · cases e
    · simp only [Value.slice.injEq, Option.some.injEq, Addr.mk.injEq, and_true, true_and] at h1
      obtain ⟨⟨rfl, rfl⟩, rfl⟩ := h1
      have hnk : n = k := by omega
      subst hnk
      refine .inr ⟨b, o, c - n, sz, st, pre, cells ++ rest, rfl, by omega, h3, ?_, h5, ?_, ?_⟩
      · rw [List.drop_eq_nil_of_le (by omega), List.append_nil, ← List.append_assoc]; exact h4
      · rw [List.drop_eq_nil_of_le (by omega)]; simp
      · have : (c - n) * size ≤ c * size := Nat.mul_le_mul_right _ (by omega)
        omega
  · rw [if_neg hck, qfz]
    exact Ow.drop s hk
theorem Sl.qsj {h : Heap} {base : Option Addr} {c m : Nat} {l : List UInt8} (s : SlB h (.slice base l.length c) l) (hm : m ≤ l.length) : SlB h (.slice base m c) (l.take m) := by
  have := Sl.pre s hm
  rw [Nat.mul_one, ← List.map_take] at this
  have e : (l.take m).length = m := by rw [List.length_take]; omega
  unfold SlB
  rw [e]; exact this
theorem Ow.apart {h0 h : Heap} {bs : Nat} {y X : Blk} {size n : Nat} {v : Value} {cells : List Value} (s : Ow h0 h size v n cells) (hb : h0 bs = some y) : Sl (h.set bs X) size v n cells := by
  have s2 : Ow h0 (h.set bs X) size v n cells := by
    rcases s with s | ⟨b, o, c, sz, st, pre, rest, h1, h2, h3, h4, h5⟩
    · exact .inl s
    · exact .inr ⟨b, o, c, sz, st, pre, rest, h1, h2, h3, by rw [Heap.q0d (by intro e; subst e; rw [hb] at h3; cases h3)]; exact h4, h5⟩
  exact s2.sl
def SlL (h : Heap) (v : Value) (L : List (List UInt8)) : Prop := ∃ vs : List Value, vs.length = L.length ∧ Sl h 1 v L.length vs ∧ ∀ i (h1 : i < vs.length) (h2 : i < L.length), SlB h vs[i] L[i]
theorem SlL.le {h h' : Heap} {v : Value} {L : List (List UInt8)} (x : h.le h') (s : SlL h v L) : SlL h' v L := by
  obtain ⟨vs, h1, h2, h3⟩ := s
  exact ⟨vs, h1, h2.le x, fun i a b => (h3 i a b).le x⟩
def row8 (f : Nat → UInt8) (n : Nat) : List Value := (List.range n).map fun j => .int .u8 (f j).toNat
theorem q0m (f : Nat → UInt8) (n : Nat) : (row8 f n).length = n := by simp [row8]
theorem q74 (f : Nat → UInt8) {n j : Nat} (h : j < (row8 f n).length) : (row8 f n)[j] = .int .u8 (f j).toNat := by simp [row8]
theorem q1s {f g : Nat → UInt8} {n : Nat} (h : ∀ j, j < n → f j = g j) : row8 f n = row8 g n := by
  unfold row8
  apply List.map_congr_left
  intro j hj
  rw [h j (List.mem_range.1 hj)]
theorem qkd (l : List UInt8) : row8 (fun j => l.getD j 0) l.length = l.map u8V := by
  apply List.ext_getElem
  · simp [row8]
  · intro j h1 h2
    rw [q74]
    have : j < l.length := by simpa using h2
    simp [u8V, this]
theorem qru (f : Nat → UInt8) (n i : Nat) (z : UInt8) : (row8 f n).set i (.int .u8 z.toNat) = row8 (fun j => if j = i then z else f j) n := by
  apply List.ext_getElem
  · simp [row8]
  · intro j h1 h2
    rw [List.getElem_set, q74, q74]
    by_cases e : i = j
    · subst e; simp
    · rw [if_neg e]; simp [Ne.symm e]
theorem qoq {H : Heap} {b n j sz : Nat} {f : Nat → UInt8} (h : H b = some (.own 0 (row8 f n) sz)) (hj : j < n) : q0x H ⟨b, j, none⟩ = some (.int .u8 (f j).toNat) := by
  rw [q0k h (by rw [q0m]; exact hj), q74]
theorem qen {H : Heap} {b n j : Nat} {f : Nat → UInt8} {z : UInt8} (h : H b = some (.own 0 (row8 f n) n)) (hj : j < n) : q0a H 1 (.pointer (some ⟨b, j, none⟩)) (.int .u8 z.toNat) = some (H.set b (.own 0 (row8 (fun k => if k = j then z else f k) n) n)) := by
  rw [q0q h rfl (by rw [q0m]; exact hj) (by rw [q0m]; omega), qru]
theorem SlL.one {h : Heap} {v : Value} {L : List (List UInt8)} (s : SlL h v L) : ∃ vs : List Value, vs.length = L.length ∧ Sl h 1 v L.length vs ∧ vs.all one = true ∧ ∀ i (h1 : i < vs.length) (h2 : i < L.length), SlB h vs[i] L[i] := by
  obtain ⟨vs, h1, h2, h3⟩ := s
  refine ⟨vs, h1, h2, ?_, h3⟩
  rw [List.all_eq_true]
  intro u hu
  obtain ⟨i, hi, rfl⟩ := List.getElem_of_mem hu
  obtain ⟨base, c, e⟩ := Sl.shape (h3 i hi (by omega))
  rw [e]; rfl
theorem SlL.cons {h : Heap} {v w : Value} {l : List UInt8} {L : List (List UInt8)} {vs : List Value} (h1 : vs.length = L.length) (h3 : ∀ i (h1 : i < vs.length) (h2 : i < L.length), SlB h vs[i] L[i]) (sw : SlB h w l) (s : Sl h 1 v (L.length + 1) (w :: vs)) : SlL h v (l :: L) := by
  refine ⟨w :: vs, by simp [h1], s, ?_⟩
  intro i a b
  cases i with
  | zero => exact sw
  | succ i => exact h3 i (by simpa using a) (by simpa using b)
theorem qgl {H : Heap} {b : Nat} {l : List UInt8} {sz : Nat} (h : H b = some (.own 0 (l.map u8V) sz)) : SlB H (.slice (some ⟨b, 0, none⟩) l.length l.length) l :=
  .inr ⟨⟨b, 0, none⟩, l.length, rfl, Nat.le_refl _, by rw [q0l h (by simp)]; simp [List.take_of_length_le]⟩
theorem addz (b o : Nat) : Addr.add ⟨b, o, none⟩ 0 = ⟨b, o, none⟩ := by unfold Addr.add; simp
theorem addO (x : Option Addr) (c : Nat) (h : ∀ a, x = some a → Addr.add a 0 = a) : (if c = 0 then x else x.map fun a => a.add 0) = x := by
  split
  · rfl
  · cases x with
    | none => rfl
    | some a => simp [h a rfl]
theorem qf1 (a : Addr) : Addr.add a 0 = a := by unfold Addr.add; simp
theorem qzo {h0 h : Heap} (x : h0.le h) (b : Nat) (X : Blk) : (h0.set b X).le (h.set b X) := by
  intro c y hc
  by_cases e : c = b
  · subst e; rw [Heap.q01] at hc ⊢; exact hc
  · rw [Heap.q0d e] at hc ⊢; exact x c y hc
abbrev RL := List (Int × List UInt8)
def EntR (es : List MapEntry) (L : RL) : Prop := es.map (fun e => (e.key, e.val)) = L.map fun x => (Value.int .i64 x.1, Value.agg (x.2.map u8V).toArray)
def getK (L : RL) (k : Int) : Option (List UInt8) := (L.find? fun x => decide (x.1 = k)).map (·.2)
theorem qpf {k : Int} : ∀ {es : List MapEntry} {L : RL} (i : Nat), EntR es L → getK L k = none → qaa .int (.int .i64 k) es i = some none
  | [], _, _, _, _ => rfl
  | e :: es, [], i, h, _ => by simp [EntR] at h
  | e :: es, x :: L, i, h, hn => by
      simp only [EntR, List.map_cons, List.cons.injEq, Prod.mk.injEq] at h
      obtain ⟨⟨h1, h2⟩, h3⟩ := h
      have hx : ¬ x.1 = k := by
        intro q
        simp [getK, List.find?_cons, q] at hn
      have hn' : getK L k = none := by
        unfold getK at hn ⊢
        rw [List.find?_cons] at hn
        simpa [hx] using hn
      have hk : keyV .int (.int .i64 k) e.key = some false := by
        rw [h1]; simp [keyV]; omega
      unfold qaa
      rw [hk]
      exact qpf (i + 1) h3 hn'
theorem qpe {k : Int} {w : List UInt8} : ∀ {es : List MapEntry} {L : RL} (i : Nat), EntR es L → getK L k = some w → ∃ j, qaa .int (.int .i64 k) es i = some (some (j, .agg (w.map u8V).toArray))
  | [], [], _, _, hs => by simp [getK] at hs
  | [], _ :: _, _, h, _ => by simp [EntR] at h
  | e :: es, [], i, h, _ => by simp [EntR] at h
  | e :: es, x :: L, i, h, hs => by
      simp only [EntR, List.map_cons, List.cons.injEq, Prod.mk.injEq] at h
      obtain ⟨⟨h1, h2⟩, h3⟩ := h
      by_cases hx : x.1 = k
      · have hk : keyV .int (.int .i64 k) e.key = some true := by
          rw [h1]; simp [keyV]; omega
        have hw : x.2 = w := by
          unfold getK at hs
          rw [List.find?_cons] at hs
          simpa [hx] using hs
        unfold qaa
        rw [hk]
        exact ⟨i, by rw [h2, hw]⟩
      · have hs' : getK L k = some w := by
          unfold getK at hs ⊢
          rw [List.find?_cons] at hs
          simpa [hx] using hs
        have hk : keyV .int (.int .i64 k) e.key = some false := by
          rw [h1]; simp [keyV]; omega
        unfold qaa
        rw [hk]
        exact qpe (i + 1) h3 hs'
def RingR (h0 H : Heap) (p : Value) (L : RL) : Prop :=
  ∃ b r es c, p = .pointer (some ⟨b, 0, none⟩) ∧ h0 b = none ∧ h0 r = none ∧ b ≠ r ∧ H b = some (.own 0 [.map (some r)] 1) ∧ H r = some (.obj (.map es c)) ∧ EntR es.toList L
theorem RingR.le {h0 H H' : Heap} {p : Value} {L : RL} (x : RingR h0 H p L) (le : H.le H') : RingR h0 H' p L := by
  obtain ⟨b, r, es, c, h1, h2, h3, h4, h5, h6, h7⟩ := x
  exact ⟨b, r, es, c, h1, h2, h3, h4, le _ _ h5, le _ _ h6, h7⟩
theorem EntR.len {es : List MapEntry} {L : RL} (h : EntR es L) : es.length = L.length := by
  have := congrArg List.length h
  simpa using this
def putF (L : RL) (k : Int) (w : List UInt8) : RL × Nat :=
  if 0 ≤ k ∧ k ≤ 1099511627776 then
    match getK L k with
    | some old => if old = w then (L, 0) else (L, 5)
    | none => if 500 ≤ L.length then (L, 2) else (L ++ [(k, w)], 0)
  else (L, 1)
theorem ql7 (k : Int) : qeu .int (.int .i64 k) = some () := rfl
theorem qvj (E : EnvT tab) (h : Heap) : ACallN E.toEnv qv7 [] h fun r h' => h.le h' ∧ RingR h h' r [] := by
  refine q0o qk0 qdu rfl rfl (q03 ?_)
  unfold qdu
  simp -implicitDefEqProofs only [zA,reduceCtorEq,Nat.reduceEqDiff]
  intro r hr
  try simp -implicitDefEqProofs only [zA,reduceIte,reduceCtorEq,Nat.reduceEqDiff,Nat.reduceAdd,Nat.reduceMul,Nat.reduceLT,Nat.reduceSub,Int.reduceLT,Int.reduceLE,Int.reduceEq,Int.reduceNe,Int.reduceSub,Int.reduceAdd,Int.reduceMul,Int.reduceBEq,Int.reduceBNe,Int.reduceGT,Int.reduceGE,Nat.reduceGT,Int.reduceToNat,Int.reduceNeg,Nat.reduceLeDiff,Nat.reduceBEq,Nat.reduceBneDiff]
  intro b hb
  try simp -implicitDefEqProofs only [zA,reduceIte,reduceCtorEq,Nat.reduceEqDiff,Nat.reduceAdd,Nat.reduceMul,Nat.reduceLT,Nat.reduceSub,Int.reduceLT,Int.reduceLE,Int.reduceEq,Int.reduceNe,Int.reduceSub,Int.reduceAdd,Int.reduceMul,Int.reduceBEq,Int.reduceBNe,Int.reduceGT,Int.reduceGE,Nat.reduceGT,Int.reduceToNat,Int.reduceNeg,Nat.reduceLeDiff,Nat.reduceBEq,Nat.reduceBneDiff]
  have ne : b ≠ r := by intro e; subst e; rw [Heap.q01] at hb; cases hb
  have hb' : h b = none := by rw [Heap.q0d ne] at hb; exact hb
  refine ⟨Heap.q1c (Heap.q02 (Heap.q04 _) hr _) hb _, b, r, #[], 0, rfl, hb', hr, ne, Heap.q01 _ _ _, by rw [Heap.q0d ne.symm, Heap.q01], rfl⟩
theorem qk4 (E : EnvT tab) {h0 H : Heap} (leH : h0.le H) {p : Value} {L : RL} (R : RingR h0 H p L) (hL : ∀ x ∈ L, x.2.length = 32) (k : Int) :
    ACallN E.toEnv qg2 [p, .int .i64 k] H fun r h' => H.le h' ∧ r = .tuple #[.agg (((getK L k).getD (List.replicate 32 0)).map u8V).toArray, .bool (getK L k).isSome] := by
  obtain ⟨b, r, es, c, rfl, hb, hr, ne, qb, qr, er⟩ := R
  refine q0o qc4 q7b rfl rfl (q03 ?_)
  unfold q7b
  simp -implicitDefEqProofs only [zA,reduceCtorEq,Nat.reduceEqDiff,Nat.reduceAdd]
  intro b4 hb4
  try simp -implicitDefEqProofs only [zA,List.length_replicate]
  have le4 : H.le (H.set b4 (.own 0 (List.replicate 32 (.int .u8 0)) 32)) := Heap.q02 (Heap.q04 _) hb4 _
  have q4 : (H.set b4 (.own 0 (List.replicate 32 (.int .u8 0)) 32)) b4 = some (.own 0 (List.replicate 32 (.int .u8 0)) 32) := Heap.q01 _ _ _
  have qb := le4 _ _ qb
  have qr := le4 _ _ qr
  generalize (H.set b4 (.own 0 (List.replicate 32 (.int .u8 0)) 32)) = h1 at le4 q4 qb qr ⊢
  have cb : q0x h1 ⟨b, 0, none⟩ = some (.map (some r)) := by rw [q0k qb (by simp)]; rfl
  have ma : qea h1 r = some (es, c) := by simp [qea, qr]
  have zr : List.replicate 32 (Value.int .u8 0) = (List.replicate 32 (0 : UInt8)).map u8V := by rw [List.map_replicate]; rfl
  have stA : ∀ (b : Nat) (l : List Value), l.length = 32 → l.all one = true → q0a (h1.set b (.own 0 (List.replicate 32 (.int .u8 0)) 32)) 32 (.pointer (some ⟨b, 0, none⟩)) (.agg l.toArray) = some (h1.set b (.own 0 l 32)) := fun b l hl ho => z6z (by omega) (by simp [hl]) ho (by simp) (by omega)
  have stB : ∀ (G : Heap) (l : List Value), h1.le G → l.length = 32 → l.all one = true → q0a G 32 (.pointer (some ⟨b4, 0, none⟩)) (.agg l.toArray) = some (G.set b4 (.own 0 l 32)) := fun G l x hl ho => q0f (x _ _ q4) (by omega) hl ho (by simp) (by omega)
  have ld : ∀ (G : Heap) (b : Nat) (l : List Value), l.length = 32 → q05 (G.set b (.own 0 l 32)) ⟨b, 0, none⟩ 32 = some l := fun G b l hl => z6x (by simp [hl])
  have zl : (List.replicate 32 (Value.int .u8 0)).length = 32 := by simp
  have zo : (List.replicate 32 (Value.int .u8 0)).all one = true := by rw [zr]; exact q1i _
  have hb4H : ∀ (G : Heap) Y, H.le G → H.le (G.set b4 Y) := fun G Y x => Heap.q02 x hb4 Y
  cases hg : getK L k with
  | none =>
    have fv := qpf 0 er hg
    simp -implicitDefEqProofs only [zA,reduceCtorEq,Nat.reduceEqDiff,cb,ma,fv,ql7]
    intro b6 hb6
    rw [zl]
    have s1 := stA b6 _ zl zo
    have le6 := Heap.q02 (Heap.q04 h1) hb6 (.own 0 (List.replicate 32 (.int .u8 0)) 32)
    have s2 := stB _ _ le6 zl zo
    have l1 := ld h1 b6 _ zl
    have l2 := ld (h1.set b6 (.own 0 (List.replicate 32 (.int .u8 0)) 32)) b4 _ zl
    simp -implicitDefEqProofs only [zA,reduceCtorEq,Nat.reduceEqDiff,s1,s2,l1,l2]
    exact ⟨hb4H _ _ (Heap.q00 le4 le6), by rw [zr]; rfl⟩
  | some w =>
    obtain ⟨j, fv⟩ := qpe 0 er hg
    have hw : w.length = 32 := by
      unfold getK at hg
      obtain ⟨x, hx, rfl⟩ := Option.map_eq_some_iff.1 hg
      exact hL x (List.mem_of_find?_eq_some hx)
    have wl : (w.map u8V).length = 32 := by simp [hw]
    have wo := q1i w
    simp -implicitDefEqProofs only [zA,reduceCtorEq,Nat.reduceEqDiff,cb,ma,fv,ql7]
    intro b6 hb6
    rw [zl]
    have s1 := stA b6 _ wl wo
    have le6 := Heap.q02 (Heap.q04 h1) hb6 (.own 0 (w.map u8V) 32)
    have s2 := stB _ _ le6 wl wo
    have l1 := ld h1 b6 _ wl
    have l2 := ld (h1.set b6 (.own 0 (w.map u8V) 32)) b4 _ wl
    simp -implicitDefEqProofs only [zA,reduceCtorEq,Nat.reduceEqDiff,s1,s2,l1,l2]
    exact ⟨hb4H _ _ (Heap.q00 le4 le6), rfl⟩
theorem qvi (E : EnvT tab) {h0 H : Heap} (leH : h0.le H) {p : Value} {L : RL} (R : RingR h0 H p L) (hL : ∀ x ∈ L, x.2.length = 32) (k : Int) (w : List UInt8) (hw : w.length = 32) :
    ACallN E.toEnv qg1 [p, .int .i64 k, .agg (w.map u8V).toArray] H fun r h' => h0.le h' ∧ r = .int .i64 ((putF L k w).2 : Nat) ∧ RingR h0 h' p (putF L k w).1 := by
  obtain ⟨b, r, es, c, rfl, hb, hr, ne, qb, qr, er⟩ := R
  refine q0o qc3 q7a rfl rfl (q03 ?_)
  unfold q7a
  have wl : (w.map u8V).length = 32 := by simp [hw]
  simp -implicitDefEqProofs only [zA,reduceCtorEq,Nat.reduceEqDiff,Nat.reduceAdd]
  intro b5 hb5
  try simp -implicitDefEqProofs only [zA,wl]
  have le5 : H.le (H.set b5 (.own 0 (w.map u8V) 32)) := Heap.q02 (Heap.q04 _) hb5 _
  have q5 : (H.set b5 (.own 0 (w.map u8V) 32)) b5 = some (.own 0 (w.map u8V) 32) := Heap.q01 _ _ _
  have qb := le5 _ _ qb
  have qr := le5 _ _ qr
  have leH := Heap.q00 leH le5
  generalize (H.set b5 (.own 0 (w.map u8V) 32)) = h1 at leH q5 qb qr ⊢
  refine (qu0 E h1 k).mono ?_
  rintro rr h3 ⟨e3, rfl⟩
  obtain rfl := e3.symm
  have zl : (List.replicate 32 (Value.int .u8 0)).length = 32 := by simp
  have cb : ∀ G, h1.le G → q0x G ⟨b, 0, none⟩ = some (.map (some r)) := fun G x => by rw [q0k (x _ _ qb) (by simp)]; rfl
  have cb1 := cb h1 (Heap.q04 _)
  have ma : ∀ G, h1.le G → qea G r = some (es, c) := fun G x => by simp [qea, x _ _ qr]
  have ma1 := ma h1 (Heap.q04 _)
  have c5 : ∀ G, h1.le G → q05 G ⟨b5, 0, none⟩ 32 = some (w.map u8V) := fun G x => by rw [q0l (x _ _ q5) (by simp [hw])]; simp [List.take_of_length_le, hw]
  have stA : ∀ (b : Nat) (l : List Value), l.length = 32 → l.all one = true → q0a (h1.set b (.own 0 (List.replicate 32 (.int .u8 0)) 32)) 32 (.pointer (some ⟨b, 0, none⟩)) (.agg l.toArray) = some (h1.set b (.own 0 l 32)) := fun b l hl ho => z6z (by omega) (by simp [hl]) ho (by simp) (by omega)
  have ld : ∀ (G : Heap) (b : Nat) (l : List Value), l.length = 32 → q05 (G.set b (.own 0 l 32)) ⟨b, 0, none⟩ 32 = some l := fun G b l hl => z6x (by simp [hl])
  have keep : ∀ G, h1.le G → RingR h0 G (.pointer (some ⟨b, 0, none⟩)) L := fun G x => ⟨b, r, es, c, rfl, hb, hr, ne, x _ _ qb, x _ _ qr, er⟩
  by_cases g : 0 ≤ k ∧ k ≤ 1099511627776
  · unfold putF
    rw [if_pos g]
    cases hg : getK L k with
    | none =>
      have fv := qpf 0 er hg
      simp -implicitDefEqProofs only [zA,reduceCtorEq,Nat.reduceEqDiff,g]
      unfold q7l
      simp -implicitDefEqProofs only [zA,reduceCtorEq,Nat.reduceEqDiff,cb1,ma1,fv,ql7]
      intro b7 hb7
      rw [zl]
      have zo : (List.replicate 32 (Value.int .u8 0)).all one = true := by
        have zr : List.replicate 32 (Value.int .u8 0) = (List.replicate 32 (0 : UInt8)).map u8V := by rw [List.map_replicate]; rfl
        rw [zr]; exact q1i _
      have s1 := stA b7 _ zl zo
      simp -implicitDefEqProofs only [zA,reduceCtorEq,Nat.reduceEqDiff,s1]
      have le7 := Heap.q02 (Heap.q04 h1) hb7 (.own 0 (List.replicate 32 (.int .u8 0)) 32)
      generalize (h1.set b7 (.own 0 (List.replicate 32 (.int .u8 0)) 32)) = h2 at le7 ⊢
      have cb2 := cb h2 le7
      have ma2 := ma h2 le7
      have c52 := c5 h2 le7
      unfold qc6
      have el : es.size = L.length := by
        have := er.len
        simpa using this
      by_cases g5 : 500 ≤ L.length
      · have g5' : (500 : Int) ≤ (es.size : Int) := by rw [el]; omega
        simp -implicitDefEqProofs only [zA,reduceCtorEq,Nat.reduceEqDiff,cb2,ma2,g5',g5]
        exact ⟨Heap.q00 leH le7, keep h2 le7⟩
      · have g5' : ¬ (500 : Int) ≤ (es.size : Int) := by rw [el]; omega
        have mu : qzj h2 .int (.map (some r)) (.int .i64 k) (.agg (w.map u8V).toArray) = some (h2.set r (.obj (.map (es.push { key := .int .i64 k, val := .agg (w.map u8V).toArray, born := c }) (c + 1)))) := by
          simp only [qzj, le7 _ _ qr, ql7, fv]
        simp -implicitDefEqProofs only [zA,reduceCtorEq,Nat.reduceEqDiff,cb2,ma2,g5',g5,c52,mu]
        refine ⟨Heap.q02 (Heap.q00 leH le7) hr _, b, r, _, _, rfl, hb, hr, ne, by rw [Heap.q0d ne]; exact le7 _ _ qb, Heap.q01 _ _ _, ?_⟩
        unfold EntR at er ⊢
        rw [Array.toList_push, List.map_append, List.map_append, er]
        rfl
    | some old =>
      obtain ⟨j, fv⟩ := qpe 0 er hg
      have ho : old.length = 32 := by
        unfold getK at hg
        obtain ⟨x, hx, rfl⟩ := Option.map_eq_some_iff.1 hg
        exact hL x (List.mem_of_find?_eq_some hx)
      have ol : (old.map u8V).length = 32 := by simp [ho]
      simp -implicitDefEqProofs only [zA,reduceCtorEq,Nat.reduceEqDiff,g]
      unfold q7l
      simp -implicitDefEqProofs only [zA,reduceCtorEq,Nat.reduceEqDiff,cb1,ma1,fv,ql7]
      intro b7 hb7
      rw [zl]
      have s1 := stA b7 _ ol (q1i old)
      simp -implicitDefEqProofs only [zA,reduceCtorEq,Nat.reduceEqDiff,s1]
      have le7 := Heap.q02 (Heap.q04 h1) hb7 (.own 0 (old.map u8V) 32)
      have l1 := ld h1 b7 _ ol
      generalize (h1.set b7 (.own 0 (old.map u8V) 32)) = h2 at le7 l1 ⊢
      have c52 := c5 h2 le7
      have k1 := qgu old
      rw [ho] at k1
      have k2 := qgu w
      rw [hw] at k2
      have k3 := qgv old w (by rw [ho, hw])
      by_cases e : old = w
      · subst e
        have k3 : q0s (old.map u8V) (old.map u8V) = true := qjp _
        simp -implicitDefEqProofs only [zA,reduceCtorEq,Nat.reduceEqDiff,l1,c52,k1,k3]
        exact ⟨Heap.q00 leH le7, keep h2 le7⟩
      · have k3 : q0s (old.map u8V) (w.map u8V) = false := by rw [k3]; simp [e]
        simp -implicitDefEqProofs only [zA,reduceCtorEq,Nat.reduceEqDiff,l1,c52,k1,k2,k3,e]
        exact ⟨Heap.q00 leH le7, keep h2 le7⟩
  · unfold putF
    rw [if_neg g]
    simp -implicitDefEqProofs only [zA,reduceCtorEq,Nat.reduceEqDiff,g]
    exact ⟨leH, keep h1 (Heap.q04 _)⟩
def qur (l : List UInt8) : List UInt8 := (l ++ List.replicate 32 0).take 32
theorem qt8 (l : List UInt8) : (qur l).length = 32 := by simp [qur]
theorem qrz {l : List UInt8} (h : l.length = 32) : qur l = l := by unfold qur; rw [← h, List.take_left]
def qef (x : Int × List UInt8) : List Value := .int .i64 x.1 :: (qur x.2).map u8V
theorem qu5 (x : Int × List UInt8) : (qef x).length = 33 := by simp [qef, qt8]
def WG (H : Heap) (w : Nat) (L : RL) : Prop := ∃ lv, H w = some (.own 0 [lv] 1) ∧ Sl H 33 lv L.length (L.flatMap qef)
theorem WG.le {H H' : Heap} {w : Nat} {L : RL} (x : WG H w L) (le : H.le H') : WG H' w L := by
  obtain ⟨lv, q, s⟩ := x
  exact ⟨lv, le _ _ q, s.le le⟩
theorem qwn {H : Heap} {base : Option Addr} {c : Nat} {L : RL} (s : Sl H 33 (.slice base L.length c) L.length (L.flatMap qef)) (i : Nat) (hi : i < L.length) :
    ∃ b o, base = some ⟨b, o, none⟩ ∧ ∀ G, H.le G → q0x G ⟨b, o + i * 33, none⟩ = some (.int .i64 L[i].1) ∧ q05 G ⟨b, o + i * 33 + 1, none⟩ 32 = some ((qur L[i].2).map u8V) := by
  obtain ⟨b, o, c', hv, -, hcl⟩ := Sl.at (f := qef) (size := 33) qu5 s i hi (by omega)
  simp only [Value.slice.injEq, true_and] at hv
  refine ⟨b, o, hv.1, fun G le => ?_⟩
  have h := hcl G le
  have h0 := qi9 h 0 (by omega)
  have h1 := qew h 1 32 (by omega)
  refine ⟨by rw [Nat.add_zero] at h0; rw [h0]; rfl, ?_⟩
  rw [h1]
  have : ((qef L[i]).drop 1).take 32 = (qur L[i].2).map u8V := by
    unfold qef
    rw [List.drop_succ_cons, List.drop_zero, List.take_of_length_le (by simp [qt8])]
  rw [this]
theorem qx6 (E : EnvT tab) (h : Heap) (n : Int) : ACallN E.toEnv ql1 [.int .i64 n] h fun r h' => h' = h ∧ r = .bool (decide (0 ≤ n ∧ n ≤ 1099511627776)) := by
  refine q0o qa6 q51 rfl rfl (q03 ?_)
  unfold q51
  by_cases g0 : 0 ≤ n
  · by_cases g1 : n ≤ 1099511627776
    · simp -implicitDefEqProofs only [zA,reduceCtorEq,Nat.reduceEqDiff,g0,g1]
    · simp -implicitDefEqProofs only [zA,reduceCtorEq,Nat.reduceEqDiff,g0,g1]
  · simp -implicitDefEqProofs only [zA,reduceCtorEq,Nat.reduceEqDiff,g0,false_and]
theorem qwe {A B : RL} {k : Int} (h : ∀ y ∈ A, y.1 ≠ k) : getK (A ++ B) k = getK B k := by
  unfold getK
  rw [List.find?_append]
  have : A.find? (fun x => decide (x.1 = k)) = none := by
    rw [List.find?_eq_none]; intro y hy; simpa using h y hy
  rw [this, Option.none_or]
theorem qvg {L : RL} {k : Int} {i : Nat} (hi : i < L.length) (h : ∀ y ∈ L.take i, y.1 ≠ k) (e : L[i].1 = k) : getK L k = some L[i].2 := by
  have : L = L.take i ++ L[i] :: L.drop (i + 1) := by
    conv => lhs; rw [← List.take_append_drop i L, List.drop_eq_getElem_cons hi]
  generalize L[i] = x at this e ⊢
  rw [this, qwe h]
  simp [getK, e]
theorem qvf {L : RL} {k : Int} (h : ∀ y ∈ L, y.1 ≠ k) : getK L k = none := by
  have := qwe (B := []) h
  rw [List.append_nil] at this
  rw [this]; rfl
theorem qsz (E : EnvT tab) {H : Heap} {w : Nat} {L : RL} (R : WG H w L) (h32 : ∀ x ∈ L, x.2.length = 32) (hn : L.length ≤ 1000) (k : Int) :
    ACallN E.toEnv qfc [.pointer (some ⟨w, 0, none⟩), .int .i64 k] H fun r h' => H.le h' ∧ r = .tuple #[.agg (((getK L k).getD (List.replicate 32 0)).map u8V).toArray, .bool (getK L k).isSome] := by
  obtain ⟨lv, q, s⟩ := R
  obtain ⟨lb, lc, rfl⟩ := Sl.shape s
  refine q0o q5b q2f rfl rfl (q03 ?_)
  unfold q2f
  have zr : List.replicate 32 (Value.int .u8 0) = (List.replicate 32 (0 : UInt8)).map u8V := by rw [List.map_replicate]; rfl
  have zl : (List.replicate 32 (Value.int .u8 0)).length = 32 := by simp
  have zo : (List.replicate 32 (Value.int .u8 0)).all one = true := by rw [zr]; exact q1i _
  simp -implicitDefEqProofs only [zA,reduceCtorEq,Nat.reduceEqDiff,Nat.reduceAdd]
  intro b4 hb4
  try simp -implicitDefEqProofs only [zA,List.length_replicate]
  have le4 : H.le (H.set b4 (.own 0 (List.replicate 32 (.int .u8 0)) 32)) := Heap.q02 (Heap.q04 _) hb4 _
  have q4 : (H.set b4 (.own 0 (List.replicate 32 (.int .u8 0)) 32)) b4 = some (.own 0 (List.replicate 32 (.int .u8 0)) 32) := Heap.q01 _ _ _
  generalize hH1 : (H.set b4 (.own 0 (List.replicate 32 (.int .u8 0)) 32)) = H1 at le4 q4 ⊢
  have c0 : q0x H1 ⟨w, 0, none⟩ = some (.slice lb L.length lc) := by rw [q0k (le4 _ _ q) (by simp)]; rfl
  have s1 := s.le le4
  have stB : ∀ (l : List Value), l.length = 32 → l.all one = true → q0a H1 32 (.pointer (some ⟨b4, 0, none⟩)) (.agg l.toArray) = some (H1.set b4 (.own 0 l 32)) := fun l hl ho => q0f q4 (by omega) hl ho (by simp) (by omega)
  have ld : ∀ (G : Heap) (b : Nat) (l : List Value), l.length = 32 → q05 (G.set b (.own 0 l 32)) ⟨b, 0, none⟩ 32 = some l := fun G b l hl => z6x (by simp [hl])
  have hb4H : ∀ Y, H.le (H1.set b4 Y) := fun Y => Heap.q02 le4 hb4 Y
  refine q0c (fun m t G => G = H1 ∧ ∃ (i : Nat), t = tl [(0, .pointer (some ⟨w, 0, none⟩)), (1, .int .i64 k), (4, .pointer (some ⟨b4, 0, none⟩)), (6, .int .i64 i)] ∧ i ≤ L.length ∧ m = L.length - i ∧ ∀ y ∈ L.take i, y.1 ≠ k) L.length
    ⟨rfl, 0, rfl, by omega, by omega, by simp⟩ ?_
  rintro m t G ⟨rfl, i, rfl, hi, rfl, h0⟩
  by_cases hlt : i < L.length
  · have hi1 : (i : Int) < L.length := by omega
    have hi2 : (0 : Int) ≤ i := by omega
    have w1 : IntKind.i64.wrap ((i : Int) + 1) = ((i + 1 : Nat) : Int) := q2k (by omega)
    obtain ⟨b, o, rfl, hc⟩ := qwn s1 i hlt
    obtain ⟨ci, cw⟩ := hc G (Heap.q04 _)
    have et : L.take (i + 1) = L.take i ++ [L[i]] := List.take_succ_eq_append_getElem hlt
    have l32 := h32 _ (List.getElem_mem hlt)
    rw [qrz l32] at cw
    simp -implicitDefEqProofs only [zA,reduceCtorEq,Nat.reduceEqDiff,c0,hi1]
    unfold q6n
    by_cases g : L[i].1 = k
    · have hg := qvg hlt h0 g
      have st := stB (L[i].2.map u8V) (by simp [l32]) (q1i _)
      have l2 := ld G b4 (L[i].2.map u8V) (by simp [l32])
      simp -implicitDefEqProofs only [zA,reduceCtorEq,Nat.reduceEqDiff,c0,hi1,hi2,Int.toNat_natCast,ci,g,cw,st,l2,hg]
      exact ⟨hb4H _, rfl⟩
    · simp -implicitDefEqProofs only [zA,reduceCtorEq,Nat.reduceEqDiff,c0,hi1,hi2,Int.toNat_natCast,ci,g,w1]
      refine ⟨_, ?_, i + 1, rfl, by omega, rfl, ?_⟩
      · omega
      · rw [et]
        intro y hy
        rcases List.mem_append.1 hy with hy | hy
        · exact h0 y hy
        · rw [List.mem_singleton] at hy; subst hy; exact g
  · have hi1 : ¬ (i : Int) < L.length := by omega
    have e : i = L.length := by omega
    subst e
    rw [List.take_length] at h0
    have hg := qvf h0
    have st := stB (List.replicate 32 (Value.int .u8 0)) zl zo
    have l2 := ld G b4 (List.replicate 32 (Value.int .u8 0)) zl
    simp -implicitDefEqProofs only [zA,reduceCtorEq,Nat.reduceEqDiff,c0,hi1,st,l2,hg]
    exact ⟨hb4H _, by rw [zr]; rfl⟩
theorem qr4 (L : RL) : (L.flatMap qef).all one = true := by
  rw [List.all_eq_true]
  intro v hv
  obtain ⟨x, -, hx⟩ := List.mem_flatMap.1 hv
  unfold qef at hx
  rcases List.mem_cons.1 hx with rfl | hx
  · rfl
  · obtain ⟨u, -, rfl⟩ := List.mem_map.1 hx; rfl
theorem qyx (E : EnvT tab) {H : Heap} {w : Nat} {L : RL} (R : WG H w L) (h32 : ∀ x ∈ L, x.2.length = 32) (hn : L.length ≤ 1000) (k : Int) (wd : List UInt8) (hw : wd.length = 32) :
    ACallN E.toEnv q98 [.pointer (some ⟨w, 0, none⟩), .int .i64 k, .agg (wd.map u8V).toArray] H fun r h' => r = .int .i64 ((putF L k wd).2 : Nat) ∧
      ((H.le h' ∧ (putF L k wd).1 = L) ∨ ∃ lv, h' w = some (.own 0 [lv] 1) ∧ Ow H h' 33 lv (putF L k wd).1.length ((putF L k wd).1.flatMap qef) ∧ ∀ c x, c ≠ w → H c = some x → h' c = some x) := by
  obtain ⟨lv, q, s⟩ := R
  obtain ⟨lb, lc, rfl⟩ := Sl.shape s
  refine q0o q5a q2e rfl rfl (q03 ?_)
  unfold q2e
  have wl : (wd.map u8V).length = 32 := by simp [hw]
  simp -implicitDefEqProofs only [zA,reduceCtorEq,Nat.reduceEqDiff,Nat.reduceAdd]
  intro b5 hb5
  try simp -implicitDefEqProofs only [zA,wl]
  have le5 : H.le (H.set b5 (.own 0 (wd.map u8V) 32)) := Heap.q02 (Heap.q04 _) hb5 _
  have q5 : (H.set b5 (.own 0 (wd.map u8V) 32)) b5 = some (.own 0 (wd.map u8V) 32) := Heap.q01 _ _ _
  generalize hH1 : (H.set b5 (.own 0 (wd.map u8V) 32)) = H1 at le5 q5 ⊢
  refine (qx6 E H1 k).mono ?_
  rintro rr H1' ⟨rfl, rfl⟩
  have c0 : q0x H1' ⟨w, 0, none⟩ = some (.slice lb L.length lc) := by rw [q0k (le5 _ _ q) (by simp)]; rfl
  have s1 := s.le le5
  have c5 : ∀ G, H1'.le G → q05 G ⟨b5, 0, none⟩ 32 = some (wd.map u8V) := fun G x => by rw [q0l (x _ _ q5) (by simp [hw])]; simp [List.take_of_length_le, hw]
  have c50 := c5 H1' (Heap.q04 _)
  by_cases g : 0 ≤ k ∧ k ≤ 1099511627776
  · unfold putF
    rw [if_pos g]
    simp -implicitDefEqProofs only [zA,reduceCtorEq,Nat.reduceEqDiff,g]
    refine q0c (fun m t G => G = H1' ∧ ∃ (i : Nat), t = tl [(0, .pointer (some ⟨w, 0, none⟩)), (1, .int .i64 k), (5, .pointer (some ⟨b5, 0, none⟩)), (7, .int .i64 i)] ∧ i ≤ L.length ∧ m = L.length - i ∧ ∀ y ∈ L.take i, y.1 ≠ k) L.length
      ⟨rfl, 0, rfl, by omega, by omega, by simp⟩ ?_
    rintro m t G ⟨rfl, i, rfl, hi, rfl, h0⟩
    by_cases hlt : i < L.length
    · have hi1 : (i : Int) < L.length := by omega
      have hi2 : (0 : Int) ≤ i := by omega
      have w1 : IntKind.i64.wrap ((i : Int) + 1) = ((i + 1 : Nat) : Int) := q2k (by omega)
      obtain ⟨b, o, rfl, hc⟩ := qwn s1 i hlt
      obtain ⟨ci, cw⟩ := hc G (Heap.q04 _)
      have et : L.take (i + 1) = L.take i ++ [L[i]] := List.take_succ_eq_append_getElem hlt
      have l32 := h32 _ (List.getElem_mem hlt)
      rw [qrz l32] at cw
      simp -implicitDefEqProofs only [zA,reduceCtorEq,Nat.reduceEqDiff,c0,hi1]
      unfold q6m
      by_cases gk : L[i].1 = k
      · have hg := qvg hlt h0 gk
        rw [hg]
        generalize L[i] = x at ci cw l32 gk
        have k1 := qgu x.2
        rw [l32] at k1
        have k2 := qgu wd
        rw [hw] at k2
        by_cases e : x.2 = wd
        · have k3 : q0s (wd.map u8V) (wd.map u8V) = true := qjp _
          rw [e] at cw k1
          simp -implicitDefEqProofs only [zA,reduceCtorEq,Nat.reduceEqDiff,c0,hi1,hi2,Int.toNat_natCast,ci,gk,cw,c50,k1,k3,e,and_self]
          exact .inl le5
        · have k3 : q0s (x.2.map u8V) (wd.map u8V) = false := by rw [qgv x.2 wd (by rw [l32, hw])]; simp [e]
          simp -implicitDefEqProofs only [zA,reduceCtorEq,Nat.reduceEqDiff,c0,hi1,hi2,Int.toNat_natCast,ci,gk,cw,c50,k1,k2,k3,e,and_self]
          exact .inl le5
      · simp -implicitDefEqProofs only [zA,reduceCtorEq,Nat.reduceEqDiff,c0,hi1,hi2,Int.toNat_natCast,ci,gk,w1]
        refine ⟨_, ?_, i + 1, rfl, by omega, rfl, ?_⟩
        · omega
        · rw [et]
          intro y hy
          rcases List.mem_append.1 hy with hy | hy
          · exact h0 y hy
          · rw [List.mem_singleton] at hy; subst hy; exact gk
    · have hi1 : ¬ (i : Int) < L.length := by omega
      have e : i = L.length := by omega
      subst e
      rw [List.take_length] at h0
      have hg := qvf h0
      rw [hg]
      simp -implicitDefEqProofs only [zA,reduceCtorEq,Nat.reduceEqDiff,c0,hi1]
      unfold q6l
      by_cases g5 : 500 ≤ L.length
      · have g5' : (500 : Int) ≤ L.length := by omega
        simp -implicitDefEqProofs only [zA,reduceCtorEq,Nat.reduceEqDiff,c0,g5',g5]
        exact .inl le5
      · have g5' : ¬ (500 : Int) ≤ L.length := by omega
        simp -implicitDefEqProofs only [zA,reduceCtorEq,Nat.reduceEqDiff,c0,g5',g5]
        unfold q6k
        simp -implicitDefEqProofs only [zA,reduceCtorEq,Nat.reduceEqDiff,List.flatten_nil,List.replicate_zero]
        intro b6 hb6
        try simp -implicitDefEqProofs only [zA,reduceIte,reduceCtorEq,Nat.reduceEqDiff,Nat.reduceAdd,Nat.reduceMul,Nat.reduceLT,Nat.reduceSub,Int.reduceLT,Int.reduceLE,Int.reduceEq,Int.reduceNe,Int.reduceSub,Int.reduceAdd,Int.reduceMul,Int.reduceBEq,Int.reduceBNe,Int.reduceGT,Int.reduceGE,Nat.reduceGT,Int.reduceToNat,Int.reduceNeg,Nat.reduceLeDiff,Nat.reduceBEq,Nat.reduceBneDiff]
        have le6 := Heap.q02 (Heap.q04 G) hb6 (.own 0 [] 0)
        simp -implicitDefEqProofs only [zA,reduceCtorEq,Nat.reduceEqDiff,c0]
        refine q0t (n := 0) (cells := []) (m := L.length) (news := L.flatMap qef) le6 (by omega) (Ow.new (c := 0) (sz := 0) (Heap.q04 _) hb6 rfl (by omega) (by omega)) (s1.le le6) (qr4 L) (by omega) (by omega) ?_
        intro v1 G1 o1 le7
        rw [Nat.zero_add, List.nil_append] at o1
        obtain ⟨vb1, vc1, rfl⟩ := Sl.shape o1.sl
        have c51 := c5 G1 le7
        have e33 : (List.take 1 (Value.int .i64 k :: List.replicate 32 (Value.int .u8 0))) = [Value.int .i64 k] := rfl
        have d33 : List.drop 33 (Value.int .i64 k :: List.replicate 32 (Value.int .u8 0)) = [] := by rw [List.drop_eq_nil_of_le]; simp
        simp -implicitDefEqProofs only [zA,reduceCtorEq,Nat.reduceEqDiff,Nat.reduceAdd,Nat.reduceSub,Nat.reduceLeDiff,c50,c51,wl,List.length_replicate,List.drop_replicate,List.replicate_zero,List.replicate_one,List.flatten_singleton,implies_true,List.mem_cons,List.not_mem_nil,or_false,forall_eq,and_self]
        intro b7 hb7
        have ecell : qef (k, wd) = Value.int .i64 k :: wd.map u8V := by unfold qef; rw [qrz hw]
        rw [← ecell]
        have le8 := Heap.q02 (Heap.q04 G1) hb7 (.own 0 (qef (k, wd)) 33)
        have sx : Sl (G1.set b7 (.own 0 (qef (k, wd)) 33)) 33 (.slice (some ⟨b7, 0, none⟩) 1 1) 1 (qef (k, wd)) := Sl.lit (by rw [qu5])
        have hone : (qef (k, wd)).all one = true := by have := qr4 [(k, wd)]; simpa using this
        refine q0t (m := 1) (Heap.q00 le7 le8) (by omega) (o1.le le8) sx hone (by omega) (by omega) ?_
        intro v3 G3 o3 le9
        obtain ⟨vb3, vc3, rfl⟩ := Sl.shape o3.sl
        have q3 := le9 _ _ (le5 _ _ q)
        have st : q0a G3 1 (.pointer (some ⟨w, 0, none⟩)) (.slice vb3 (L.length + 1) vc3) = some (G3.set w (.own 0 [.slice vb3 (L.length + 1) vc3] 1)) := q0q q3 rfl (by simp) (by simp)
        simp -implicitDefEqProofs only [zA,reduceCtorEq,Nat.reduceEqDiff,Nat.reduceAdd,st,implies_true]
        refine .inr ⟨_, Heap.q01 _ _ _, ?_, ?_⟩
        · have e1 : (L ++ [(k, wd)]).length = L.length + 1 := by simp
          have e2 : (L ++ [(k, wd)]).flatMap qef = L.flatMap qef ++ qef (k, wd) := by simp
          rw [e1, e2]
          have o4 := o3.since le5
          rcases o4 with s0 | ⟨b, o, c', sz, st', pre, rest, p1, p2, p3, p4, p5⟩
          · exact .inl s0
          · refine .inr ⟨b, o, c', sz, st', pre, rest, p1, p2, p3, ?_, p5⟩
            rw [Heap.q0d (by intro e; subst e; rw [q] at p3; cases p3)]
            exact p4
        · intro c x hc hx
          rw [Heap.q0d hc]
          exact le9 _ _ (le5 _ _ hx)
  · unfold putF
    rw [if_neg g]
    simp -implicitDefEqProofs only [zA,reduceCtorEq,Nat.reduceEqDiff,g]
    exact .inl le5
theorem u8_at {h : Heap} {v : Value} {M : List UInt8} (s : SlB h v M) (j : Nat) (hj : j < M.length) :
    ∃ b o c, v = .slice (some ⟨b, o, none⟩) M.length c ∧ ∀ H, h.le H → q0x H ⟨b, o + j, none⟩ = some (.int .u8 M[j].toNat) := by
  obtain ⟨b, o, c, hv, hc, hcl⟩ := s.ptr (by omega) (by omega)
  refine ⟨b, o, c, hv, fun H hle => ?_⟩
  rw [Nat.mul_one] at hcl
  rw [qi9 (q22 hle hcl) j hj]
  simp [hj, u8V]
def qif (x : UInt8) : List UInt8 := x :: List.replicate 31 0
theorem qsm (x : UInt8) : Value.int .u8 x.toNat :: List.drop 1 (List.replicate 32 (Value.int .u8 0)) = (qif x).map u8V := rfl
theorem qxw (x : UInt8) : (qif x).length = 32 := rfl
def P2 (h1 H : Heap) (p w : Nat) (L : RL) : Prop := ∃ h0, h1.le h0 ∧ h1 w = none ∧ h0.le H ∧ RingR h0 H (.pointer (some ⟨p, 0, none⟩)) L ∧ WG h0 w L
structure LOk (i : Nat) (L : RL) : Prop where
  l32 : ∀ x ∈ L, x.2.length = 32
  rng : ∀ y ∈ L, 0 ≤ y.1 ∧ y.1 ≤ 1099511627776
  len : L.length ≤ i
theorem LOk.put {i : Nat} {L : RL} (I : LOk i L) (k : Int) {wd : List UInt8} (hw : wd.length = 32) : LOk (i + 1) (putF L k wd).1 := by
  have I1 : LOk (i + 1) L := ⟨I.l32, I.rng, by have := I.len; omega⟩
  unfold putF
  split
  · rename_i g
    split
    · split
      · exact I1
      · exact I1
    · split
      · exact I1
      · refine ⟨fun x hx => ?_, fun x hx => ?_, by have := I.len; simp; omega⟩
        · rcases List.mem_append.1 hx with hx | hx
          · exact I.l32 x hx
          · rw [List.mem_singleton] at hx; subst hx; exact hw
        · rcases List.mem_append.1 hx with hx | hx
          · exact I.rng x hx
          · rw [List.mem_singleton] at hx; subst hx; exact g
  · exact I1
theorem P2.le {h1 H H' : Heap} {p w : Nat} {L : RL} (P : P2 h1 H p w L) (le : H.le H') : P2 h1 H' p w L := by
  obtain ⟨h0, a, b, c, d, e⟩ := P
  exact ⟨h0, a, b, Heap.q00 c le, d.le le, e⟩
theorem P2.put (E : EnvT tab) {h1 H : Heap} {p w : Nat} {L : RL} (P : P2 h1 H p w L) {i : Nat} (I : LOk i L) (hi : i ≤ 1000) (k : Int) {wd : List UInt8} (hw : wd.length = 32) :
    ACallN E.toEnv qg1 [.pointer (some ⟨p, 0, none⟩), .int .i64 k, .agg (wd.map u8V).toArray] H fun r H1 => r = .int .i64 ((putF L k wd).2 : Nat) ∧ h1.le H1 ∧
      ACallN E.toEnv q98 [.pointer (some ⟨w, 0, none⟩), .int .i64 k, .agg (wd.map u8V).toArray] H1 fun r H2 => r = .int .i64 ((putF L k wd).2 : Nat) ∧ P2 h1 H2 p w (putF L k wd).1 := by
  obtain ⟨h0, le0, hw0, leH, R, G⟩ := P
  refine (qvi E leH R I.l32 k wd hw).mono ?_
  rintro r H1 ⟨le1, rfl, R1⟩
  refine ⟨rfl, Heap.q00 le0 le1, ?_⟩
  refine (qyx E (G.le le1) I.l32 (by have := I.len; omega) k wd hw).mono ?_
  rintro r H2 ⟨rfl, hm⟩
  refine ⟨rfl, ?_⟩
  rcases hm with ⟨le2, e⟩ | ⟨lv, q, ow, keep⟩
  · rw [e] at R1 ⊢
    exact ⟨h0, le0, hw0, Heap.q00 le1 le2, R1.le le2, G⟩
  · obtain ⟨lv0, qw, -⟩ := G
    refine ⟨fun c => if h0 c = none ∧ H1 c ≠ none then none else H2 c, ?_, hw0, ?_, ?_, lv, ?_, ?_⟩
    · intro c x hx
      have h2 := le0 _ _ hx
      have hc : c ≠ w := by intro e; subst e; rw [hw0] at hx; cases hx
      simp only
      rw [if_neg (by rw [h2]; simp)]
      exact keep c x hc (le1 _ _ h2)
    · intro c x hx
      simp only at hx
      split at hx
      · cases hx
      · exact hx
    · obtain ⟨b, r, es, cc, e1, e2, e3, e4, e5, e6, e7⟩ := R1
      have hb : b ≠ w := by intro e; subst e; rw [qw] at e2; cases e2
      have hr : r ≠ w := by intro e; subst e; rw [qw] at e3; cases e3
      exact ⟨b, r, es, cc, e1, by simp [e2, e5], by simp [e3, e6], e4, keep _ _ hb e5, keep _ _ hr e6, e7⟩
    · simp only
      rw [if_neg (by rw [qw]; simp)]; exact q
    · have : Ow H1 (fun c => if h0 c = none ∧ H1 c ≠ none then none else H2 c) 33 lv (putF L k wd).1.length ((putF L k wd).1.flatMap qef) := by
        rcases ow with s | ⟨b, o, c, sz, st, pre, rest, p1, p2, p3, p4, p5⟩
        · exact .inl s
        · refine .inr ⟨b, o, c, sz, st, pre, rest, p1, p2, p3, ?_, p5⟩
          simp only
          rw [if_neg (by rw [p3]; simp)]
          exact p4
      exact this.sl
theorem qw8 {a b : Heap} (h : a.le b) (c : Nat) (X : Blk) : (a.set c X).le (b.set c X) := by
  intro i x hx
  by_cases e : i = c
  · subst e; rw [Heap.q01] at hx ⊢; exact hx
  · rw [Heap.q0d e] at hx ⊢; exact h _ _ hx
theorem P2.box {h1 H : Heap} {p w : Nat} {L : RL} (P : P2 h1 H p w L) {b : Nat} (hb : H b = none) (X : Blk) : P2 (h1.set b X) (H.set b X) p w L := by
  obtain ⟨h0, a, c, d, R, lv, q, s⟩ := P
  have hw : w ≠ b := by intro e; subst e; have := d _ _ q; rw [hb] at this; cases this
  refine ⟨h0.set b X, qw8 a b X, by rw [Heap.q0d hw]; exact c, qw8 d b X, ?_, WG.le ⟨lv, q, s⟩ (Heap.q02 (Heap.q04 _) (Heap.q08 d hb) _)⟩
  obtain ⟨b1, r, es, cc, e1, e2, e3, e4, e5, e6, e7⟩ := R
  have hb1 : b1 ≠ b := by intro e; subst e; rw [hb] at e5; cases e5
  have hr : r ≠ b := by intro e; subst e; rw [hb] at e6; cases e6
  exact ⟨b1, r, es, cc, e1, by rw [Heap.q0d hb1]; exact e2, by rw [Heap.q0d hr]; exact e3, e4, by rw [Heap.q0d hb1]; exact e5, by rw [Heap.q0d hr]; exact e6, e7⟩
theorem P2.down {h1 h1' H : Heap} {p w : Nat} {L : RL} (P : P2 h1' H p w L) (le : h1.le h1') : P2 h1 H p w L := by
  obtain ⟨h0, a, c, d, R⟩ := P
  exact ⟨h0, Heap.q00 le a, Heap.q08 le c, d, R⟩
theorem P2.get (E : EnvT tab) {h1 H : Heap} {p w : Nat} {L : RL} (P : P2 h1 H p w L) {i : Nat} (I : LOk i L) (k : Int) :
    ACallN E.toEnv qg2 [.pointer (some ⟨p, 0, none⟩), .int .i64 k] H fun r h' => H.le h' ∧ r = .tuple #[.agg (((getK L k).getD (List.replicate 32 0)).map u8V).toArray, .bool (getK L k).isSome] := by
  obtain ⟨h0, a, c, d, R, G⟩ := P
  exact qk4 E d R I.l32 k
theorem qpx (E : EnvT tab) (h : Heap) {v : Value} (l : List UInt8) (hl : l.length ≤ 140737488355328) (s : SlB h v l) : ACallN E.toEnv qeo [v] h fun r h' => h.le h' ∧ OwB h h' r l := by
  refine q0o q4b q1y rfl rfl (q03 ?_)
  unfold q1y
  rcases s with ⟨rfl, hn, hc⟩ | ⟨a, c, rfl, hc, hcl⟩
  · simp -implicitDefEqProofs only [zA,reduceCtorEq,Nat.reduceEqDiff,Option.isNone]
    have : l = [] := List.eq_nil_of_length_eq_zero hn
    subst this
    exact ⟨Heap.q04 _, Ow.nil _ _ _⟩
  · have s : SlB h (.slice (some a) l.length c) l := .inr ⟨a, c, rfl, hc, hcl⟩
    simp -implicitDefEqProofs only [zA,reduceCtorEq,Nat.reduceEqDiff]
    intro b1 hb1
    try simp -implicitDefEqProofs only [zA,reduceIte,reduceCtorEq,Nat.reduceEqDiff,Nat.reduceAdd,Nat.reduceMul,Nat.reduceLT,Nat.reduceSub,Int.reduceLT,Int.reduceLE,Int.reduceEq,Int.reduceNe,Int.reduceSub,Int.reduceAdd,Int.reduceMul,Int.reduceBEq,Int.reduceBNe,Int.reduceGT,Int.reduceGE,Nat.reduceGT,Int.reduceToNat,Int.reduceNeg,Nat.reduceLeDiff,Nat.reduceBEq,Nat.reduceBneDiff]
    refine q0t (bytes := 1) (n := 0) (cells := []) (m := l.length) (news := l.map u8V) (Heap.q02 (Heap.q04 _) hb1 _) (by omega) (Ow.new (Heap.q04 _) hb1 rfl (by omega) (by omega)) (s.le (Heap.q02 (Heap.q04 _) hb1 _)) (q1i l) (by omega) (by omega) ?_
    intro v' h' ow le'
    rw [Nat.zero_add, List.nil_append] at ow
    simp -implicitDefEqProofs only [zA,reduceCtorEq,Nat.reduceEqDiff]
    exact ⟨le', ow⟩
def qe3 (l : List UInt8) : U64 := l.foldl (fun v b => v <<< 8 ||| BitVec.ofNat 64 b.toNat) 0
theorem qp1 (E : EnvT tab) (h : Heap) {v : Value} (l : List UInt8) (hl : l.length ≤ 8) (s : SlB h v l) : ACallN E.toEnv qp7 [v] h fun r h' => h' = h ∧ r = .tuple #[u64V (qe3 l), .int .i64 0] := by
  obtain ⟨base, c, rfl⟩ := Sl.shape s
  refine q0o qd2 q8d rfl rfl (q03 ?_)
  unfold q8d
  have g1 : ¬ (8 : Int) < l.length := by omega
  simp -implicitDefEqProofs only [zA,reduceCtorEq,Nat.reduceEqDiff,g1]
  refine q0c (fun m t H => H = h ∧ ∃ (j : Nat), t = tl [(4, .int .u64 (qe3 (l.take j)).toNat), (10, .slice base l.length c), (11, .int .i64 l.length), (12, .int .i64 j)] ∧ j ≤ l.length ∧ m = l.length - j) l.length
    ⟨rfl, 0, rfl, by omega, by omega⟩ ?_
  rintro m t H ⟨rfl, j, rfl, hj, rfl⟩
  by_cases hlt : j < l.length
  · obtain ⟨b, o, c', hv, hc, hcl⟩ := Sl.q7x s j hlt
    simp only [Value.slice.injEq, true_and] at hv
    obtain ⟨rfl, rfl⟩ := hv
    have hz := hcl H (Heap.q04 _)
    unfold u8V at hz
    have e1 : (j : Int) < l.length := by omega
    have e2 : (0 : Int) ≤ j := by omega
    simp -implicitDefEqProofs only [zA,Nat.reduceEqDiff,Int.reduceLT,Int.reduceToNat,Nat.reduceLeDiff,e1,e2,hz,Int.toNat_natCast,qy7,u8_u64,u64_or,q2k (n := j) (by omega)]
    refine ⟨_, ?_, j + 1, ?_, hlt, rfl⟩
    · omega
    · rw [List.take_succ_eq_append_getElem hlt]
      simp only [qe3, List.foldl_append, List.foldl_cons, List.foldl_nil]
  · have e1 : ¬ (j : Int) < l.length := by omega
    have : j = l.length := by omega
    subst this
    rw [List.take_length]
    simp -implicitDefEqProofs only [zA,Nat.reduceEqDiff,e1]
    rfl
def bigF (v : U64) (n : Nat) : List UInt8 := (List.range n).reverse.map fun i => UInt8.ofNat (v >>> (8 * i)).toNat
theorem qlr (v : U64) (n : Nat) : (bigF v n).length = n := by simp [bigF]
theorem qu8 (v : U64) (n : Nat) : bigF v (n + 1) = UInt8.ofNat (v >>> (8 * n)).toNat :: bigF v n := by simp [bigF, List.range_succ]
theorem qp2 (E : EnvT tab) (h : Heap) {b : Value} (l : List UInt8) (hl : l.length ≤ 140737488355000) (s : SlB h b l) (v : U64) (n : Nat) (hn : n ≤ 8) : ACallN E.toEnv qv6 [b, .int .u64 v.toNat, .int .i64 n] h fun r h' => h.le h' ∧ OwB h h' r (l ++ bigF v n) := by
  refine q0o qjz qdt rfl rfl (q03 ?_)
  unfold qdt
  simp -implicitDefEqProofs only [zA,reduceCtorEq,Nat.reduceEqDiff,Nat.reduceAdd]
  refine (qpx E h l (by omega) s).mono ?_
  rintro r h1 ⟨le1, ow⟩
  have g1 : ¬ (8 : Int) < n := by omega
  have g2 : ¬ (n : Int) < 0 := by omega
  have w0 : IntKind.i64.wrap ((n : Int) - 1) = (n : Int) - 1 := q0w (by omega) (by omega)
  simp -implicitDefEqProofs only [zA,reduceCtorEq,Nat.reduceEqDiff,g1,g2,w0]
  refine q0c (fun m t H => h.le H ∧ ∃ (j : Nat) (v7 : Value), t = tl [(1, .int .u64 v.toNat), (7, v7), (8, .int .i64 ((j : Int) - 1))] ∧ j ≤ n ∧ m = j ∧ ∃ l', OwB h H v7 l' ∧ l' ++ bigF v j = l ++ bigF v n) n
    ⟨le1, n, _, rfl, by omega, rfl, l, ow, rfl⟩ ?_
  rintro m t H ⟨leH, j, v7, rfl, hj, rfl, l', ow', hl'⟩
  cases m with
  | zero =>
    simp -implicitDefEqProofs only [zA,Nat.reduceEqDiff,Int.reduceLE,Int.reduceSub,Int.reduceNeg]
    have : l' = l ++ bigF v n := by rw [← hl']; simp [bigF]
    rw [← this]
    exact ⟨leH, ow'⟩
  | succ j =>
    have e1 : (((j + 1 : Nat) : Int) - 1) = (j : Int) := by omega
    have e2 : (0 : Int) ≤ j := by omega
    have w1 : IntKind.i64.wrap (8 * (j : Int)) = ((8 * j : Nat) : Int) := by rw [q0w (by omega) (by omega)]; omega
    have w2 : IntKind.i64.wrap ((j : Int) - 1) = (j : Int) - 1 := q0w (by omega) (by omega)
    have n1 : ¬ (((8 * j : Nat) : Int) < 0) := by omega
    have sh : ((v.toNat : Int).fdiv (2 ^ (min (8 * j) IntKind.u64.bits))) = ((v >>> (8 * j)).toNat : Int) := qrh v (8 * j) (by omega)
    rw [e1]
    have hlen : l'.length ≤ l.length + 8 := by
      have := congrArg List.length hl'
      simp only [List.length_append, qlr] at this
      omega
    simp -implicitDefEqProofs only [zA,Nat.reduceEqDiff,e2,w1,n1,Int.toNat_natCast,sh,qw0]
    intro b1 hb1
    try simp -implicitDefEqProofs only [zA,Nat.reduceEqDiff]
    refine q0t (bytes := 1) (m := 1) (news := [u8V (UInt8.ofNat (v >>> (8 * j)).toNat)]) (Heap.q1c leH hb1 _) (by omega) (ow'.le (Heap.q02 (Heap.q04 _) hb1 _)) (Sl.lit (n := 1) rfl) rfl (by omega) (by omega) ?_
    intro v3 H3 ow3 le3
    simp -implicitDefEqProofs only [zA,Nat.reduceEqDiff,w2]
    refine ⟨j, by omega, le3, j, v3, rfl, by omega, rfl, l' ++ [UInt8.ofNat (v >>> (8 * j)).toNat], by simpa [OwB] using ow3, ?_⟩
    rw [← hl', qu8]; simp
def rowU (f : Nat → U32) (n : Nat) : List Value := (List.range n).map fun j => .int .u32 (f j).toNat
theorem q89 (f : Nat → U32) (n : Nat) : (rowU f n).length = n := by simp [rowU]
theorem qrq (f : Nat → U32) {n j : Nat} (h : j < (rowU f n).length) : (rowU f n)[j] = .int .u32 (f j).toNat := by simp [rowU]
def updU (f : Nat → U32) (i : Nat) (z : U32) : Nat → U32 := fun j => if j = i then z else f j
theorem rowU_set (f : Nat → U32) (n i : Nat) (z : U32) : (rowU f n).set i (.int .u32 z.toNat) = rowU (updU f i z) n := by
  apply List.ext_getElem
  · simp [rowU]
  · intro j h1 h2
    rw [List.getElem_set, qrq, qrq]
    unfold updU
    by_cases e : i = j
    · subst e; simp
    · rw [if_neg e, if_neg (Ne.symm e)]
theorem q7j {H : Heap} {b n j sz : Nat} {f : Nat → U32} (h : H b = some (.own 0 (rowU f n) sz)) (hj : j < n) : q0x H ⟨b, j, none⟩ = some (.int .u32 (f j).toNat) := by
  rw [q0k h (by rw [q89]; exact hj), qrq]
theorem q1h {H : Heap} {b n j : Nat} {f : Nat → U32} {z : U32} (h : H b = some (.own 0 (rowU f n) n)) (hj : j < n) : q0a H 1 (.pointer (some ⟨b, j, none⟩)) (.int .u32 z.toNat) = some (H.set b (.own 0 (rowU (updU f j z) n) n)) := by
  rw [q0q h rfl (by rw [q89]; exact hj) (by rw [q89]; omega), rowU_set]
theorem qhz (f : Nat → U32) (n : Nat) : (rowU f n).all one = true := by simp [rowU, one]
theorem qm0 {f g : Nat → U32} {n : Nat} (h : ∀ j, j < n → f j = g j) : rowU f n = rowU g n := by
  unfold rowU
  apply List.map_congr_left
  intro j hj
  rw [h j (List.mem_range.1 hj)]
def turnF (x : U32) (n : Nat) : U32 := x <<< (32 - n) ||| x >>> n
def q1j (v : U64) (n : Nat) : List UInt8 := (List.range n).map fun i => UInt8.ofNat (v >>> (8 * i)).toNat
theorem q1f (v : U64) (n : Nat) : (q1j v n).length = n := by simp [q1j]
theorem qn6 (v : U64) (n : Nat) : q1j v (n + 1) = q1j v n ++ [UInt8.ofNat (v >>> (8 * n)).toNat] := by simp [q1j, List.range_succ]
theorem q7z (E : EnvT tab) (h : Heap) {b : Value} (l : List UInt8) (hl : l.length ≤ 140737488355000) (s : SlB h b l) (v : U64) (n : Nat) (hn : n ≤ 8) : ACallN E.toEnv qq5 [b, .int .u64 v.toNat, .int .i64 n] h fun r h' => h.le h' ∧ OwB h h' r (l ++ q1j v n) := by
  refine q0o qec q9e rfl rfl (q03 ?_)
  unfold q9e
  simp -implicitDefEqProofs only [zA,reduceCtorEq,Nat.reduceEqDiff,Nat.reduceAdd]
  refine (qpx E h l (by omega) s).mono ?_
  rintro r h1 ⟨le1, ow⟩
  have g1 : ¬ (8 : Int) < n := by omega
  have g2 : ¬ (n : Int) < 0 := by omega
  simp -implicitDefEqProofs only [zA,reduceCtorEq,Nat.reduceEqDiff,g1,g2]
  refine q0c (fun m t H => h.le H ∧ ∃ (j : Nat) (v7 : Value), t = tl [(1, .int .u64 v.toNat), (7, v7), (13, .int .i64 n), (14, .int .i64 j)] ∧ j ≤ n ∧ m = n - j ∧ OwB h H v7 (l ++ q1j v j)) n
    ⟨le1, 0, _, rfl, by omega, by omega, by simpa [q1j] using ow⟩ ?_
  rintro m t H ⟨leH, j, v7, rfl, hj, rfl, ow'⟩
  by_cases hlt : j < n
  · have e1 : (j : Int) < n := by omega
    have w1 : IntKind.i64.wrap (8 * (j : Int)) = ((8 * j : Nat) : Int) := by rw [q0w (by omega) (by omega)]; omega
    have w2 : IntKind.i64.wrap ((j : Int) + 1) = ((j + 1 : Nat) : Int) := q2k (by omega)
    have n1 : ¬ (((8 * j : Nat) : Int) < 0) := by omega
    have sh : ((v.toNat : Int).fdiv (2 ^ (min (8 * j) IntKind.u64.bits))) = ((v >>> (8 * j)).toNat : Int) := qrh v (8 * j) (by omega)
    simp -implicitDefEqProofs only [zA,Nat.reduceEqDiff,e1,w1,n1,Int.toNat_natCast,sh,qw0]
    intro b1 hb1
    try simp -implicitDefEqProofs only [zA,Nat.reduceEqDiff]
    have hlen : (l ++ q1j v j).length = l.length + j := by rw [List.length_append, q1f]
    refine q0t (bytes := 1) (m := 1) (news := [u8V (UInt8.ofNat (v >>> (8 * j)).toNat)]) (Heap.q1c leH hb1 _) (by omega) (ow'.le (Heap.q02 (Heap.q04 _) hb1 _)) (Sl.lit (n := 1) rfl) rfl (by omega) (by omega) ?_
    intro v3 H3 ow3 le3
    simp -implicitDefEqProofs only [zA,Nat.reduceEqDiff,w2]
    refine ⟨n - (j + 1), by omega, le3, j + 1, v3, rfl, by omega, rfl, ?_⟩
    rw [qn6, ← List.append_assoc]
    unfold OwB
    rw [List.length_append, List.map_append]
    exact ow3
  · have e1 : ¬ (j : Int) < n := by omega
    have : j = n := by omega
    subst this
    simp -implicitDefEqProofs only [zA,Nat.reduceEqDiff,e1]
    exact ⟨leH, ow'⟩
theorem q07 {H : Heap} {b c : Nat} {X Y : Blk} (hc : H c = some Y) (e : c ≠ b) : (H.set b X) c = some Y := by rw [Heap.q0d e]; exact hc
theorem q1b {H : Heap} {b c : Nat} {X Y : Blk} (hb : H b = none) (hc : H c = some Y) : (H.set b X) c = some Y := by rw [Heap.q0d (q06 hb hc)]; exact hc
def upd (f : Nat → Nat) (i z : Nat) : Nat → Nat := fun k => if k = i then z else f k
theorem qcb (f : Nat → Nat) (i z : Nat) : upd f i z i = z := by simp [upd]
theorem qg0 {f : Nat → Nat} {i z j : Nat} (h : j ≠ i) : upd f i z j = f j := by simp [upd, h]
def rowK (k : IntKind) (f : Nat → Nat) (n : Nat) : List Value := (List.range n).map fun j => .int k ((f j : Nat) : Int)
section
variable {k : IntKind} {f g : Nat → Nat} {n : Nat}
theorem q1l (k : IntKind) (f : Nat → Nat) (n : Nat) : (rowK k f n).length = n := by simp [rowK]
theorem qnz {j : Nat} (h : j < (rowK k f n).length) : (rowK k f n)[j] = .int k ((f j : Nat) : Int) := by simp [rowK]
theorem qx4 (h : ∀ j, j < n → f j = g j) : rowK k f n = rowK k g n := by
  unfold rowK
  apply List.map_congr_left
  intro j hj
  rw [h j (List.mem_range.1 hj)]
theorem rowK_set (k : IntKind) (f : Nat → Nat) (n i z : Nat) : (rowK k f n).set i (.int k (z : Int)) = rowK k (upd f i z) n := by
  apply List.ext_getElem
  · simp [rowK]
  · intro j h1 h2
    rw [List.getElem_set, qnz, qnz]
    unfold upd
    by_cases e : i = j
    · subst e; simp
    · rw [if_neg e]; simp [Ne.symm e]
theorem qkc (k : IntKind) (n : Nat) : List.replicate n (Value.int k 0) = rowK k (fun _ => 0) n := by
  apply List.ext_getElem
  · simp [rowK]
  · intro j h1 h2
    rw [qnz]; simp
theorem qny (k : IntKind) (f : Nat → Nat) (n : Nat) : (rowK k f n).all one = true := by simp [rowK, one]
theorem qcw {H : Heap} {b j sz : Nat} (h : H b = some (.own 0 (rowK k f n) sz)) (hj : j < n) : q0x H ⟨b, j, none⟩ = some (.int k ((f j : Nat) : Int)) := by
  rw [q0k h (by rw [q1l]; exact hj), qnz]
theorem q2s {H : Heap} {b j z sz : Nat} (h : H b = some (.own 0 (rowK k f n) sz)) (hj : j < n) (hs : n ≤ sz) : q0a H 1 (.pointer (some ⟨b, j, none⟩)) (.int k (z : Int)) = some (H.set b (.own 0 (rowK k (upd f j z) n) sz)) := by
  rw [q0q h rfl (by rw [q1l]; exact hj) (by rw [q1l]; exact hs), rowK_set]
theorem q2t {H : Heap} {b sz : Nat} (h : H b = some (.own 0 (rowK k f n) sz)) : q05 H ⟨b, 0, none⟩ n = some (rowK k f n) := by
  rw [q0l h (by rw [q1l]; omega)]; simp [List.take_of_length_le, q1l]
theorem qdh {H : Heap} {b : Nat} {old : List Value} (h : H b = some (.own 0 old n)) (hl : old.length = n) (hn : 0 < n) : q0a H n (.pointer (some ⟨b, 0, none⟩)) (.agg (rowK k f n).toArray) = some (H.set b (.own 0 (rowK k f n) n)) :=
  q0f h hn (q1l _ _ _) (qny _ _ _) hl (by omega)
end
def q4f (p f : Nat → Nat) (i : Nat) : Nat → Nat := fun j => if j < i then p j else f j
theorem qlq (p f : Nat → Nat) : q4f p f 0 = f := by funext j; simp [q4f]
theorem qu7 (p f : Nat → Nat) (i : Nat) : q4f p f i i = f i := by simp [q4f]
theorem qhq {p f : Nat → Nat} {i j : Nat} (h : i ≤ j) : q4f p f i j = f j := by simp [q4f]; omega
theorem qhp {p f : Nat → Nat} {i j : Nat} (h : j < i) : q4f p f i j = p j := by simp [q4f, h]
theorem upd_upd (f : Nat → Nat) (i z w : Nat) : upd (upd f i z) i w = upd f i w := by funext j; simp only [upd]; split <;> rfl
theorem qb6 (p f : Nat → Nat) (i : Nat) : upd (q4f p f i) i (p i) = q4f p f (i + 1) := by
  funext j
  simp only [upd, q4f]
  by_cases e : j = i
  · subst e; simp
  · rw [if_neg e]
    by_cases e2 : j < i
    · rw [if_pos e2, if_pos (by omega)]
    · rw [if_neg e2, if_neg (by omega)]
theorem qr8 (k : IntKind) (p f : Nat → Nat) (n : Nat) : rowK k (q4f p f n) n = rowK k p n := qx4 fun j hj => qhp hj
theorem qbg {n : Nat} (h : n < 4294967296) : IntKind.u32.wrap (n : Int) = (n : Int) := by
  rw [qf3, q1d, BitVec.toNat_ofNat, Nat.mod_eq_of_lt (by omega)]
theorem q1x {n : Nat} (h : n < 18446744073709551616) : IntKind.u64.wrap (n : Int) = (n : Int) := by
  rw [qb7, q1d, BitVec.toNat_ofNat, Nat.mod_eq_of_lt (by omega)]
theorem qwq (w a q : Nat) (ha : a < 2 ^ w) (hq : q ≤ w) : (BitVec.ofNat w a &&& BitVec.ofNat w (2 ^ q - 1)).toNat = a % 2 ^ q := by
  have hp : 2 ^ q ≤ 2 ^ w := Nat.pow_le_pow_right (by decide) hq
  have h0 : 0 < 2 ^ q := Nat.pow_pos (by decide)
  rw [BitVec.toNat_and, BitVec.toNat_ofNat, BitVec.toNat_ofNat, Nat.mod_eq_of_lt ha, Nat.mod_eq_of_lt (show 2 ^ q - 1 < 2 ^ w by omega), Nat.and_two_pow_sub_one_eq_mod]
theorem qx0 {a : Nat} (h : a < 4294967296) : IntKind.u32.wrap ((BitVec.ofInt IntKind.u32.bits (a : Int) &&& BitVec.ofInt IntKind.u32.bits 255).toNat : Int) = ((a % 256 : Nat) : Int) := by
  rw [show IntKind.u32.bits = 32 from rfl, show BitVec.ofInt 32 255 = BitVec.ofNat 32 (2 ^ 8 - 1) from rfl, q1d, qwq 32 a 8 (by omega) (by decide)]
  exact qbg (by omega)
theorem u32_and3 {a : Nat} (h : a < 4294967296) : IntKind.u32.wrap ((BitVec.ofInt IntKind.u32.bits (a : Int) &&& BitVec.ofInt IntKind.u32.bits 3).toNat : Int) = ((a % 4 : Nat) : Int) := by
  rw [show IntKind.u32.bits = 32 from rfl, show BitVec.ofInt 32 3 = BitVec.ofNat 32 (2 ^ 2 - 1) from rfl, q1d, qwq 32 a 2 (by omega) (by decide)]
  exact qbg (by omega)
theorem qwz {a : Nat} (h : a < 18446744073709551616) : IntKind.u64.wrap ((BitVec.ofInt IntKind.u64.bits (a : Int) &&& BitVec.ofInt IntKind.u64.bits 255).toNat : Int) = ((a % 256 : Nat) : Int) := by
  rw [show IntKind.u64.bits = 64 from rfl, show BitVec.ofInt 64 255 = BitVec.ofNat 64 (2 ^ 8 - 1) from rfl, q1d, qwq 64 a 8 (by omega) (by decide)]
  exact q1x (by omega)
theorem u64_and3 {a : Nat} (h : a < 18446744073709551616) : IntKind.u64.wrap ((BitVec.ofInt IntKind.u64.bits (a : Int) &&& BitVec.ofInt IntKind.u64.bits 3).toNat : Int) = ((a % 4 : Nat) : Int) := by
  rw [show IntKind.u64.bits = 64 from rfl, show BitVec.ofInt 64 3 = BitVec.ofNat 64 (2 ^ 2 - 1) from rfl, q1d, qwq 64 a 2 (by omega) (by decide)]
  exact q1x (by omega)
theorem qw3 (a : Nat) : (a : Int).fdiv (2 ^ (min (Int.toNat 8) IntKind.u32.bits)) = ((a / 256 : Nat) : Int) := by
  rw [show min (Int.toNat 8) IntKind.u32.bits = 8 from rfl, Int.fdiv_eq_ediv_of_nonneg _ (by decide)]; simp
theorem qy9 (a : Nat) : (a : Int).fdiv (2 ^ (min 8 IntKind.u32.bits)) = ((a / 256 : Nat) : Int) := qw3 a
theorem qw1 (a : Nat) : (a : Int).fdiv (2 ^ (min (Int.toNat 8) IntKind.u64.bits)) = ((a / 256 : Nat) : Int) := by
  rw [show min (Int.toNat 8) IntKind.u64.bits = 8 from rfl, Int.fdiv_eq_ediv_of_nonneg _ (by decide)]; simp
theorem qy5 (a : Nat) : (a : Int).fdiv (2 ^ (min 8 IntKind.u64.bits)) = ((a / 256 : Nat) : Int) := qw1 a
theorem qw2 (a : Nat) : (a : Int).fdiv (2 ^ (min (Int.toNat 2) IntKind.u64.bits)) = ((a / 4 : Nat) : Int) := by
  rw [show min (Int.toNat 2) IntKind.u64.bits = 2 from rfl, Int.fdiv_eq_ediv_of_nonneg _ (by decide)]; simp
theorem qy6 (a : Nat) : (a : Int).fdiv (2 ^ (min 2 IntKind.u64.bits)) = ((a / 4 : Nat) : Int) := qw2 a
abbrev PQ : Nat := 1361129467683753853853498429727072845819
def valD (f : Nat → Nat) : Nat → Nat
  | 0 => 0
  | n + 1 => valD f n + f n * 256 ^ n
theorem qej {f g : Nat → Nat} : ∀ {n : Nat}, (∀ j, j < n → f j = g j) → valD f n = valD g n
  | 0, _ => rfl
  | n + 1, h => by rw [valD, valD, qej (fun j hj => h j (by omega)), h n (by omega)]
theorem qdc (f : Nat → Nat) (i z : Nat) : ∀ n : Nat, i < n → valD (upd f i z) n + f i * 256 ^ i = valD f n + z * 256 ^ i
  | 0, h => by omega
  | n + 1, h => by
    rw [valD, valD]
    by_cases e : i = n
    · subst e
      rw [qcb, qej (g := f) (fun j hj => qg0 (by omega))]
      omega
    · have := qdc f i z n (by omega)
      rw [qg0 (Ne.symm e)]
      omega
theorem qy0 {f : Nat → Nat} {B : Nat} : ∀ {n : Nat}, (∀ j, j < n → f j ≤ B) → valD f n ≤ B * 256 ^ n
  | 0, _ => by simp [valD]
  | n + 1, h => by
    have h1 := qy0 (f := f) (B := B) (n := n) (fun j hj => h j (by omega))
    have h2 : f n * 256 ^ n ≤ B * 256 ^ n := Nat.mul_le_mul_right _ (h n (by omega))
    have h3 : B * 256 ^ (n + 1) = 256 * (B * 256 ^ n) := by rw [Nat.pow_succ, ← Nat.mul_assoc, Nat.mul_comm]
    rw [valD, h3]
    omega
theorem qrg {f : Nat → Nat} : ∀ {n : Nat}, (∀ j, j < n → f j < 256) → valD f n < 256 ^ n
  | 0, _ => by simp [valD]
  | n + 1, h => by
    have h1 := qrg (f := f) (n := n) (fun j hj => h j (by omega))
    have h2 : f n * 256 ^ n ≤ 255 * 256 ^ n := Nat.mul_le_mul_right _ (by have := h n (by omega); omega)
    have h3 : 256 ^ (n + 1) = 256 * 256 ^ n := by rw [Nat.pow_succ, Nat.mul_comm]
    rw [valD, h3]
    omega
theorem qqd (f : Nat → Nat) (i : Nat) : ∀ n, i < n → ∃ r, valD f n = valD f i + 256 ^ i * (f i + 256 * r)
  | 0, h => by omega
  | n + 1, h => by
    by_cases e : i = n
    · subst e
      exact ⟨0, by rw [valD]; simp [Nat.mul_comm]⟩
    · obtain ⟨r, hr⟩ := qqd f i n (by omega)
      refine ⟨r + f n * 256 ^ (n - i - 1), ?_⟩
      have : 256 ^ n = 256 ^ i * (256 * 256 ^ (n - i - 1)) := by
        rw [← Nat.pow_succ', ← Nat.pow_add]; congr 1; omega
      rw [valD, hr, this]
      rw [Nat.mul_add 256, ← Nat.add_assoc (f i), Nat.mul_add (256 ^ i) (f i + 256 * r), Nat.add_assoc]
      congr 2
      rw [Nat.mul_left_comm, Nat.mul_left_comm (f n)]
theorem qy1 {f : Nat → Nat} {n i : Nat} (hi : i < n) (h : ∀ j, j ≤ i → f j < 256) : valD f n / 256 ^ i % 256 = f i := by
  obtain ⟨r, hr⟩ := qqd f i n hi
  have h0 : valD f i < 256 ^ i := qrg (fun j hj => h j (by omega))
  have hp : 0 < 256 ^ i := Nat.pow_pos (by decide)
  rw [hr, Nat.add_mul_div_left _ _ hp, Nat.div_eq_of_lt h0]
  have := h i (Nat.le_refl _)
  omega
def carD (f g : Nat → Nat) : Nat → Nat
  | 0 => 0
  | i + 1 => (carD f g i + f i + g i) / 256
def addD (f g : Nat → Nat) (j : Nat) : Nat := if j < 16 then (carD f g j + f j + g j) % 256 else carD f g j + f j + g j
theorem qvm {f g : Nat → Nat} {B : Nat} (hf : ∀ j, j < 17 → f j ≤ B) (hg : ∀ j, j < 17 → g j ≤ B) : ∀ i, i ≤ 17 → carD f g i ≤ B
  | 0, _ => by simp [carD]
  | i + 1, h => by
    have := qvm hf hg i (by omega)
    have := hf i (by omega)
    have := hg i (by omega)
    rw [carD]; omega
theorem qwt (f g : Nat → Nat) : ∀ i, i ≤ 16 → valD (addD f g) i + carD f g i * 256 ^ i = valD f i + valD g i
  | 0, _ => by simp [valD, carD]
  | i + 1, h => by
    have ih := qwt f g i (by omega)
    have e : addD f g i = (carD f g i + f i + g i) % 256 := by unfold addD; rw [if_pos (by omega)]
    rw [valD, valD, valD, carD, e]
    have key : (carD f g i + f i + g i) % 256 * 256 ^ i + (carD f g i + f i + g i) / 256 * 256 ^ (i + 1) = carD f g i * 256 ^ i + f i * 256 ^ i + g i * 256 ^ i := by
      rw [Nat.pow_succ, Nat.mul_comm (256 ^ i) 256, ← Nat.mul_assoc, ← Nat.add_mul, ← Nat.add_mul, ← Nat.add_mul]
      congr 1
      omega
    omega
theorem qo7 (f g : Nat → Nat) : valD (addD f g) 17 = valD f 17 + valD g 17 := by
  have h := qwt f g 16 (by omega)
  have e : addD f g 16 = carD f g 16 + f 16 + g 16 := by unfold addD; rw [if_neg (by omega)]
  have v : ∀ x : Nat → Nat, valD x 17 = valD x 16 + x 16 * 256 ^ 16 := fun _ => rfl
  rw [v, v, v, e, Nat.add_mul, Nat.add_mul]
  generalize 256 ^ 16 = Q at h ⊢
  generalize carD f g 16 * Q = c at h ⊢
  omega
theorem qsi (f g : Nat → Nat) {j : Nat} (h : j < 16) : addD f g j < 256 := by
  unfold addD; rw [if_pos h]; omega
theorem j0f (f g : Nat → Nat) : addD f g 16 = carD f g 16 + f 16 + g 16 := by unfold addD; rw [if_neg (by omega)]
theorem quf (p : Nat → Nat) : valD p 17 = p 0 + 256 * p 1 + 65536 * p 2 + 16777216 * p 3 + 4294967296 * p 4 + 1099511627776 * p 5 + 281474976710656 * p 6 + 72057594037927936 * p 7 + 18446744073709551616 * p 8 + 4722366482869645213696 * p 9 + 1208925819614629174706176 * p 10 + 309485009821345068724781056 * p 11 + 79228162514264337593543950336 * p 12 + 20282409603651670423947251286016 * p 13 + 5192296858534827628530496329220096 * p 14 + 1329227995784915872903807060280344576 * p 15 + 340282366920938463463374607431768211456 * p 16 := by
  simp only [valD, Nat.reducePow, Nat.zero_add]
  omega
def qqi (n : Nat) (p : Nat → Nat) : Prop :=
  match n with
  | 0 => ∀ j, j < 17 → p j ≤ 8589934592
  | 1 => (∀ j, 0 < j → j < 16 → p j < 256) ∧ p 16 < 4 ∧ p 0 ≤ 1125899906842624
  | 2 => (∀ j, 0 < j → j < 16 → p j < 256) ∧ p 16 < 4 ∧ p 0 ≤ 260
  | _ => (∀ j, j < 16 → p j < 256) ∧ p 16 < 4
theorem qye {n : Nat} {p : Nat → Nat} (h : qqi n p) : ∀ j, j < 17 → p j ≤ 1125899906842624 := by
  intro j hj
  unfold qqi at h
  split at h
  · have := h j hj; omega
  · obtain ⟨h1, h2, h3⟩ := h
    by_cases e : j = 0
    · subst e; exact h3
    · by_cases e2 : j = 16
      · subst e2; omega
      · have := h1 j (by omega) (by omega); omega
  · obtain ⟨h1, h2, h3⟩ := h
    by_cases e : j = 0
    · subst e; omega
    · by_cases e2 : j = 16
      · subst e2; omega
      · have := h1 j (by omega) (by omega); omega
  · obtain ⟨h1, h2⟩ := h
    by_cases e2 : j = 16
    · subst e2; omega
    · have := h1 j (by omega); omega
theorem qyd {n : Nat} (hn : n < 3) {p q : Nat → Nat} {c : Nat} (hp : qqi n p) (hq : ∀ j, j < 16 → q j < 256) (hq16 : q 16 < 4) (hv : valD q 17 + c * 1361129467683753853853498429727072845824 = valD p 17) :
    qqi (n + 1) (upd q 0 (q 0 + 5 * c)) ∧ valD (upd q 0 (q 0 + 5 * c)) 17 % PQ = valD p 17 % PQ := by
  have hu := qdc q 0 (q 0 + 5 * c) 17 (by omega)
  simp only [Nat.pow_zero, Nat.mul_one] at hu
  refine ⟨?_, by unfold PQ; omega⟩
  have d : ∀ j, 0 < j → j < 16 → upd q 0 (q 0 + 5 * c) j < 256 := fun j h1 h2 => by rw [qg0 (by omega)]; exact hq j h2
  have d16 : upd q 0 (q 0 + 5 * c) 16 < 4 := by rw [qg0 (by omega)]; exact hq16
  have d0 : upd q 0 (q 0 + 5 * c) 0 = q 0 + 5 * c := qcb _ _ _
  have q0 := hq 0 (by omega)
  have big : ∀ B, (∀ j, 0 < j → j < 16 → p j < 256) → p 16 < 4 → p 0 ≤ B → valD p 17 ≤ 1361129467683753853853498429727072845568 + B := by
    intro B h1 h2 h3
    rw [quf]
    have := h1 1 (by omega) (by omega); have := h1 2 (by omega) (by omega); have := h1 3 (by omega) (by omega); have := h1 4 (by omega) (by omega); have := h1 5 (by omega) (by omega)
    have := h1 6 (by omega) (by omega); have := h1 7 (by omega) (by omega); have := h1 8 (by omega) (by omega); have := h1 9 (by omega) (by omega); have := h1 10 (by omega) (by omega)
    have := h1 11 (by omega) (by omega); have := h1 12 (by omega) (by omega); have := h1 13 (by omega) (by omega); have := h1 14 (by omega) (by omega); have := h1 15 (by omega) (by omega)
    omega
  have q0v : q 0 ≤ valD q 17 := by rw [quf]; omega
  match n, hn, hp with
  | 0, _, hp =>
    have h := qy0 (n := 17) hp
    simp only [Nat.reducePow] at h
    exact ⟨d, d16, by rw [d0]; omega⟩
  | 1, _, ⟨h1, h2, h3⟩ =>
    have h := big _ h1 h2 h3
    exact ⟨d, d16, by rw [d0]; omega⟩
  | 2, _, ⟨h1, h2, h3⟩ =>
    have h := big _ h1 h2 h3
    refine ⟨fun j hj => ?_, d16⟩
    by_cases e : j = 0
    · subst e; rw [d0]; omega
    · exact d j (by omega) hj
theorem mul_lo {p g : Nat → Nat} {X i k a b : Nat} (hm : i + k < 17) (h : valD p 17 % PQ = (X + a * 256 ^ i * valD g k) % PQ) (hb : b = g k) :
    valD (upd p (i + k) (p (i + k) + a * b)) 17 % PQ = (X + a * 256 ^ i * valD g (k + 1)) % PQ := by
  have hu := qdc p (i + k) (p (i + k) + a * b) 17 hm
  rw [Nat.add_mul] at hu
  have e : a * 256 ^ i * valD g (k + 1) = a * 256 ^ i * valD g k + a * b * 256 ^ (i + k) := by
    rw [valD, Nat.mul_add, hb, Nat.pow_add]
    congr 1
    rw [Nat.mul_mul_mul_comm]
  rw [e]
  generalize a * b * 256 ^ (i + k) = z at hu ⊢
  generalize a * 256 ^ i * valD g k = y at h ⊢
  unfold PQ at h ⊢
  omega
theorem mul_hi {p g : Nat → Nat} {X i k a b m : Nat} (hm : i + k = m + 17) (h17 : m < 17) (h : valD p 17 % PQ = (X + a * 256 ^ i * valD g k) % PQ) (hb : b = g k) :
    valD (upd p m (p m + 320 * (a * b))) 17 % PQ = (X + a * 256 ^ i * valD g (k + 1)) % PQ := by
  have hu := qdc p m (p m + 320 * (a * b)) 17 h17
  rw [Nat.add_mul, Nat.mul_assoc 320] at hu
  have e : a * 256 ^ i * valD g (k + 1) = a * 256 ^ i * valD g k + 87112285931760246646623899502532662132736 * (a * b * 256 ^ m) := by
    rw [valD, Nat.mul_add, hb]
    congr 1
    rw [Nat.mul_mul_mul_comm, ← Nat.pow_add, hm, Nat.pow_add, show (256 : Nat) ^ 17 = 87112285931760246646623899502532662132736 by decide]
    rw [← Nat.mul_assoc, Nat.mul_comm]
  rw [e]
  generalize a * b * 256 ^ m = z at hu ⊢
  generalize a * 256 ^ i * valD g k = y at h ⊢
  unfold PQ at h ⊢
  omega
def q4a (z : Nat) : Nat → Nat := fun j => if j = 0 then z else 0
theorem qoh (z : Nat) : valD (q4a z) 17 = z := by rw [quf]; simp [q4a]
def qnu (p : Nat → Nat) : Prop := (∀ j, j < 16 → p j < 256) ∧ p 16 < 4
def wgt (i : Nat) : Nat := if i < 17 then 256 ^ i else 1361129467683753853853498429727072845824
theorem qxm {p q : Nat → Nat} {c i : Nat} (hi : i < 16) (hv : valD q 17 + c * wgt i = valD p 17) (e : q i = p i) :
    valD (upd q i ((c + p i) % 256)) 17 + (c + p i) / 256 * wgt (i + 1) = valD p 17 := by
  have hu := qdc q i ((c + p i) % 256) 17 (by omega)
  have h1 : (c + p i) % 256 * 256 ^ i + (c + p i) / 256 * wgt (i + 1) = (c + p i) * 256 ^ i := by
    unfold wgt
    rw [if_pos (by omega), Nat.pow_succ, Nat.mul_comm (256 ^ i) 256, ← Nat.mul_assoc, ← Nat.add_mul]
    congr 1; omega
  have h2 : wgt i = 256 ^ i := by unfold wgt; rw [if_pos (by omega)]
  rw [h2] at hv
  rw [Nat.add_mul, ← e] at h1
  rw [← e]
  rw [← e] at hu
  generalize wgt (i + 1) = W at h1 ⊢
  generalize (c + q i) / 256 * W = A at h1 ⊢
  generalize (c + q i) % 256 * 256 ^ i = B at h1 hu
  generalize c * 256 ^ i = C at h1 hv
  omega
theorem qxn {p q : Nat → Nat} {c : Nat} (hv : valD q 17 + c * wgt 16 = valD p 17) (e : q 16 = p 16) :
    valD (upd q 16 ((c + p 16) % 4)) 17 + (c + p 16) / 4 * wgt 17 = valD p 17 := by
  have hu := qdc q 16 ((c + p 16) % 4) 17 (by omega)
  have h2 : wgt 16 = 256 ^ 16 := rfl
  have h3 : wgt 17 = 4 * 256 ^ 16 := by decide
  rw [h2] at hv
  rw [h3]
  rw [e] at hu
  generalize 256 ^ 16 = W at hu hv ⊢
  have h1 : (c + p 16) % 4 * W + (c + p 16) / 4 * (4 * W) = c * W + p 16 * W := by
    rw [← Nat.mul_assoc, ← Nat.add_mul, ← Nat.add_mul]
    congr 1; omega
  generalize (c + p 16) / 4 * (4 * W) = A at h1 ⊢
  generalize (c + p 16) % 4 * W = B at h1 hu
  generalize c * W = C at h1 hv
  omega
theorem qzc {p : Nat → Nat} (h : qnu p) : valD p 17 < 1361129467683753853853498429727072845824 := by
  obtain ⟨h1, h2⟩ := h
  have h3 := qrg (f := p) (n := 16) h1
  have e : valD p 17 = valD p 16 + p 16 * 256 ^ 16 := rfl
  have h4 : p 16 * 256 ^ 16 ≤ 3 * 256 ^ 16 := Nat.mul_le_mul_right _ (by omega)
  rw [e]
  exact Nat.lt_of_lt_of_le (Nat.add_lt_add_of_lt_of_le h3 h4) (by decide)
theorem qi1 {p : Nat → Nat} (h : qnu p) : ∀ j, j < 17 → p j < 256 := by
  intro j hj
  by_cases e : j = 16
  · subst e; have := h.2; omega
  · exact h.1 j (by omega)
theorem least_hi {q : Nat → Nat} (hq : qnu q) (h : 4 ≤ addD q (q4a 5) 16) :
    qnu (upd (addD q (q4a 5)) 16 (addD q (q4a 5) 16 % 4)) ∧ valD (upd (addD q (q4a 5)) 16 (addD q (q4a 5) 16 % 4)) 17 = valD q 17 % PQ := by
  have hv := qo7 q (q4a 5)
  rw [qoh] at hv
  have hlt := qzc hq
  have hd : ∀ j, j < 16 → addD q (q4a 5) j < 256 := fun j hj => qsi _ _ hj
  generalize addD q (q4a 5) = g at h hv hd ⊢
  refine ⟨⟨fun j hj => by rw [qg0 (by omega)]; exact hd j hj, by rw [qcb]; omega⟩, ?_⟩
  have hu := qdc g 16 (g 16 % 4) 17 (by omega)
  have h3 := qrg (f := g) (n := 16) hd
  have e : valD g 17 = valD g 16 + g 16 * 256 ^ 16 := rfl
  have e2 : (256 : Nat) ^ 16 = 340282366920938463463374607431768211456 := by decide
  rw [e2] at hu h3 e
  have g8 : g 16 < 8 := by
    rcases Nat.lt_or_ge (g 16) 8 with x | x
    · exact x
    · have := Nat.mul_le_mul_right 340282366920938463463374607431768211456 x
      obtain ⟨y, hy⟩ : ∃ y, g 16 * 340282366920938463463374607431768211456 = y := ⟨_, rfl⟩
      rw [hy] at e this
      clear hu
      omega
  have g4 : g 16 % 4 + 4 = g 16 := by omega
  have e3 : g 16 * 340282366920938463463374607431768211456 = g 16 % 4 * 340282366920938463463374607431768211456 + 1361129467683753853853498429727072845824 := by
    rw [← g4, Nat.add_mul, g4]
  rw [e3] at hu e
  obtain ⟨y, hy⟩ : ∃ y, g 16 % 4 * 340282366920938463463374607431768211456 = y := ⟨_, rfl⟩
  rw [hy] at hu e
  generalize valD (upd g 16 (g 16 % 4)) 17 = v at hu ⊢
  have hge : PQ ≤ valD q 17 := by unfold PQ; omega
  rw [Nat.mod_eq_sub_mod hge, Nat.mod_eq_of_lt (by unfold PQ; omega)]
  unfold PQ; omega
theorem least_lo {q : Nat → Nat} (hq : qnu q) (h : ¬ 4 ≤ addD q (q4a 5) 16) : valD q 17 = valD q 17 % PQ := by
  have hv := qo7 q (q4a 5)
  rw [qoh] at hv
  have hd : ∀ j, j < 16 → addD q (q4a 5) j < 256 := fun j hj => qsi _ _ hj
  have hn := qzc (p := addD q (q4a 5)) ⟨hd, by omega⟩
  rw [Nat.mod_eq_of_lt (by unfold PQ; omega)]
theorem Ow.store1 {h0 h : Heap} {b o n c : Nat} {cells : List Value} (s : Ow h0 h 1 (.slice (some ⟨b, o, none⟩) n c) n cells) {i : Nat} (hi : i < n) {v : Value} (hv : one v = true) :
    ∃ h', q0a h 1 (.pointer (some ⟨b, o + i, none⟩)) v = some h' ∧ Ow h0 h' 1 (.slice (some ⟨b, o, none⟩) n c) n (cells.set i v) ∧ (h0.le h → h0.le h') := by
  rcases s with ⟨e, _⟩ | ⟨b', o', c', sz, st, pre, rest, e, hc, hn, hb, ho, hl, hz⟩
  · cases e
  simp only [Value.slice.injEq, Option.some.injEq, Addr.mk.injEq, and_true, true_and] at e
  obtain ⟨⟨rfl, rfl⟩, rfl⟩ := e
  have hv1 : v.cells.toList = [v] := by
    cases v <;> first | rfl | (cases hv; done)
  have hv2 : v.cells.size = 1 := by rw [← Array.length_toList, hv1]; rfl
  have hs : q1t (pre ++ cells ++ rest) (o + i - st) [v] = pre ++ cells.set i v ++ rest := by
    have e1 : o + i - st = pre.length + i := by omega
    rw [e1]
    have e2 : q1t (pre ++ cells ++ rest) (pre.length + i) [v] = (pre ++ cells ++ rest).set (pre.length + i) v := by
      unfold q1t
      rw [List.set_eq_take_append_cons_drop, if_pos (by simp; omega)]
      simp
    rw [e2, List.set_append_left _ _ (by simp; omega), List.set_append_right _ _ (by omega), Nat.add_sub_cancel_left]
  refine ⟨h.set b (.own st (pre ++ cells.set i v ++ rest) sz), ?_, ?_, fun hle => Heap.q02 hle hn _⟩
  · simp only [q0a, hv1, hv2, true_and]
    rw [if_pos (by simp [hv])]
    simp only [q5j, hb]
    rw [if_pos ⟨by omega, by simp; omega, by simp; omega⟩, hs]
  · exact .inr ⟨b, o, c, sz, st, pre, rest, rfl, hc, hn, Heap.q01 _ _ _, ho, by simpa using hl, hz⟩
def revI (l : List UInt8) (i k : Nat) : UInt8 := if k < i ∨ l.length ≤ k + i then l.getD (l.length - 1 - k) 0 else l.getD k 0
theorem revI_row (l : List UInt8) (i : Nat) (h : l.length ≤ 2 * i + 1) : row8 (revI l i) l.length = l.reverse.map u8V := by
  have e : row8 (revI l i) l.length = row8 (fun j => l.reverse.getD j 0) l.length := by
    apply q1s
    intro k hk
    have hr : l.reverse.getD k 0 = l.getD (l.length - 1 - k) 0 := by
      rw [List.getD_eq_getElem?_getD, List.getD_eq_getElem?_getD, List.getElem?_reverse hk]
    rw [hr]
    unfold revI
    by_cases c : k < i ∨ l.length ≤ k + i
    · rw [if_pos c]
    · rw [if_neg c]
      have : l.length - 1 - k = k := by omega
      rw [this]
  rw [e]
  have := qkd l.reverse
  rw [List.length_reverse] at this
  exact this
theorem qyw (l : List UInt8) (i : Nat) (h : 2 * i + 1 < l.length) : ((row8 (revI l i) l.length).set i (.int .u8 (revI l i (l.length - 1 - i)).toNat)).set (l.length - 1 - i) (.int .u8 (revI l i i).toNat) = row8 (revI l (i + 1)) l.length := by
  rw [qru, qru]
  apply q1s
  intro k hk
  have a1 : revI l i i = l.getD i 0 := by unfold revI; rw [if_neg (by omega)]
  have a2 : revI l i (l.length - 1 - i) = l.getD (l.length - 1 - i) 0 := by unfold revI; rw [if_neg (by omega)]
  rw [a1, a2]
  by_cases c1 : k = l.length - 1 - i
  · rw [if_pos c1]
    unfold revI
    rw [if_pos (by omega)]
    congr 1; omega
  · rw [if_neg c1]
    by_cases c2 : k = i
    · rw [if_pos c2]
      unfold revI
      rw [if_pos (by omega), c2]
    · rw [if_neg c2]
      unfold revI
      by_cases c3 : k < i ∨ l.length ≤ k + i
      · rw [if_pos c3, if_pos (by omega)]
      · rw [if_neg c3, if_neg (by omega)]
theorem Sl.j0g {h : Heap} {b o n c : Nat} {cells : List Value} (s : Sl h 1 (.slice (some ⟨b, o, none⟩) n c) n cells) (j : Nat) (hj : j < n) (hl : j < cells.length) : q0x h ⟨b, o + j, none⟩ = some cells[j] := by
  rcases s with ⟨e, _⟩ | ⟨a, c', e, _, hc⟩
  · cases e
  · simp only [Value.slice.injEq, Option.some.injEq, true_and] at e
    obtain ⟨rfl, _⟩ := e
    rw [qi9 hc j (by omega)]
    simp [hl]
theorem j0h (E : EnvT tab) {h0 h : Heap} (hle : h0.le h) {v : Value} (l : List UInt8) (hl : l.length ≤ 140737488355328) (s : OwB h0 h v l) : ACallN E.toEnv qd9 [v] h fun r h' => h0.le h' ∧ OwB h0 h' v l.reverse := by
  obtain ⟨base, c, rfl⟩ := Sl.shape s.sl
  refine q0o q3a q1q rfl rfl (q03 ?_)
  unfold q1q
  have w0 : IntKind.i64.wrap ((l.length : Int) - 1) = (l.length : Int) - 1 := q0w (by omega) (by omega)
  simp -implicitDefEqProofs only [zA,reduceCtorEq,Nat.reduceEqDiff,w0]
  have hl0 : l.map u8V = row8 (revI l 0) l.length := by
    rw [← qkd]
    apply q1s
    intro k hk
    unfold revI
    rw [if_neg (by omega)]
  unfold OwB at s
  rw [hl0] at s
  refine q0c (fun m t H => h0.le H ∧ ∃ (i : Nat), t = tl [(0, .slice base l.length c), (2, .int .i64 i), (3, .int .i64 ((l.length : Int) - 1 - i))] ∧ m = l.length - i ∧ i ≤ l.length ∧ Ow h0 H 1 (.slice base l.length c) l.length (row8 (revI l i) l.length)) l.length
    ⟨hle, 0, by simp, by omega, by omega, s⟩ ?_
  rintro m t H ⟨leH, i, rfl, rfl, hi, ow⟩
  by_cases hlt : 2 * i + 1 < l.length
  · have g1 : (i : Int) < (l.length : Int) - 1 - i := by omega
    rcases Ow.shape ow with ⟨_, hz, _⟩ | ⟨b, o, c2, hv⟩
    · omega
    simp only [Value.slice.injEq, true_and] at hv
    obtain ⟨rfl, rfl⟩ := hv
    obtain ⟨J, hJ⟩ : ∃ J : Nat, l.length - 1 - i = J := ⟨_, rfl⟩
    have eJ : (l.length : Int) - 1 - i = (J : Int) := by omega
    have cI := Sl.j0g ow.sl i (by omega) (by rw [q0m]; omega)
    have cJ := Sl.j0g ow.sl J (by omega) (by rw [q0m]; omega)
    rw [q74] at cI cJ
    obtain ⟨h1, s1, ow1, le1⟩ := ow.store1 (i := i) (by omega) (v := .int .u8 (revI l i J).toNat) rfl
    obtain ⟨h2, s2, ow2, le2⟩ := ow1.store1 (i := J) (by omega) (v := .int .u8 (revI l i i).toNat) rfl
    have hst := qyw l i hlt
    rw [hJ] at hst
    rw [hst] at ow2
    have b1 : (i : Int) < l.length := by omega
    have b2 : (0 : Int) ≤ i := by omega
    have b3 : (J : Int) < l.length := by omega
    have b4 : (0 : Int) ≤ J := by omega
    have w1 : IntKind.i64.wrap ((i : Int) + 1) = ((i + 1 : Nat) : Int) := q2k (by omega)
    have w2 : IntKind.i64.wrap ((J : Int) - 1) = (l.length : Int) - 1 - ((i + 1 : Nat) : Int) := by rw [q0w (by omega) (by omega)]; omega
    rw [eJ] at g1 ⊢
    simp -implicitDefEqProofs only [zA,reduceCtorEq,Nat.reduceEqDiff,g1,b1,b2,b3,b4,Int.toNat_natCast,cI,cJ,s1,s2,w1,w2,implies_true]
    refine ⟨l.length - (i + 1), by omega, le2 (le1 leH), i + 1, rfl, rfl, by omega, ow2⟩
  · have g1 : ¬ (i : Int) < (l.length : Int) - 1 - i := by omega
    rw [revI_row l i (by omega)] at ow
    simp -implicitDefEqProofs only [zA,reduceCtorEq,Nat.reduceEqDiff,g1]
    refine ⟨leH, ?_⟩
    unfold OwB
    rw [List.length_reverse]
    exact ow
theorem qei {n : Nat} (h : n < 18446744073709551616) : IntKind.u64.wrap (n : Int) = (n : Int) := by
  rw [qb7, q1d]; simp; omega
theorem qk7 (n : Nat) : IntKind.u64.wrap (n : Int) = ((n % 18446744073709551616 : Nat) : Int) := by
  rw [qb7, q1d]; simp
theorem j0e (a : Nat) : IntKind.u64.wrap ((BitVec.ofInt IntKind.u64.bits (a : Int) &&& BitVec.ofInt IntKind.u64.bits 4294967295).toNat : Int) = ((a % 4294967296 : Nat) : Int) := by
  have e : (BitVec.ofInt IntKind.u64.bits (a : Int) &&& BitVec.ofInt IntKind.u64.bits 4294967295).toNat = a % 4294967296 := by
    rw [show IntKind.u64.bits = 64 from rfl, show BitVec.ofInt 64 4294967295 = BitVec.ofNat 64 (2 ^ 32 - 1) from rfl, q1d, BitVec.toNat_and, BitVec.toNat_ofNat, BitVec.toNat_ofNat]
    rw [Nat.mod_eq_of_lt (show 2 ^ 32 - 1 < 2 ^ 64 by decide), Nat.and_two_pow_sub_one_eq_mod]
    omega
  rw [e]
  exact qei (by omega)
theorem shr_32 (a : Nat) : (a : Int).fdiv (2 ^ (min (Int.toNat 32) IntKind.u64.bits)) = ((a / 4294967296 : Nat) : Int) := by
  rw [show min (Int.toNat 32) IntKind.u64.bits = 32 from rfl, Int.fdiv_eq_ediv_of_nonneg _ (by decide)]
  simp
theorem qrl (a : Nat) : (a : Int).fdiv (2 ^ (min 32 IntKind.u64.bits)) = ((a / 4294967296 : Nat) : Int) := shr_32 a
theorem qzk (x1 x0 y1 y0 : Nat) (hx : x0 < 4294967296) (hy : y0 < 4294967296) :
    x1 * y1 + (x1 * y0 + x0 * y0 / 4294967296) / 4294967296 + ((x1 * y0 + x0 * y0 / 4294967296) % 4294967296 + x0 * y1) / 4294967296 = (x1 * 4294967296 + x0) * (y1 * 4294967296 + y0) / 18446744073709551616 := by
  have e : (x1 * 4294967296 + x0) * (y1 * 4294967296 + y0) = x1 * y1 * 18446744073709551616 + (x1 * y0 + x0 * y1) * 4294967296 + x0 * y0 := by
    rw [Nat.add_mul, Nat.mul_add, Nat.mul_add]
    have h1 : x1 * 4294967296 * (y1 * 4294967296) = x1 * y1 * 18446744073709551616 := by
      rw [Nat.mul_mul_mul_comm]
    have h2 : x1 * 4294967296 * y0 = x1 * y0 * 4294967296 := by rw [Nat.mul_right_comm]
    have h3 : x0 * (y1 * 4294967296) = x0 * y1 * 4294967296 := by rw [Nat.mul_assoc]
    rw [h1, h2, h3, Nat.add_mul]
    omega
  rw [e]
  generalize x1 * y1 = A
  generalize x1 * y0 = B
  generalize x0 * y1 = C
  generalize x0 * y0 = D
  omega
theorem j0l (E : EnvT tab) (h : Heap) (a b : Nat) (ha : a < 18446744073709551616) (hb : b < 18446744073709551616) :
    ACallN E.toEnv qm9 [.int .u64 a, .int .u64 b] h fun r h' => h' = h ∧ r = .tuple #[.int .u64 ((a * b / 18446744073709551616 : Nat) : Int), .int .u64 ((a * b % 18446744073709551616 : Nat) : Int)] := by
  refine q0o qaw q5y rfl rfl (q03 ?_)
  unfold q5y
  have hx0 : a % 4294967296 < 4294967296 := Nat.mod_lt _ (by decide)
  have hy0 : b % 4294967296 < 4294967296 := Nat.mod_lt _ (by decide)
  have hx1 : a / 4294967296 < 4294967296 := by omega
  have hy1 : b / 4294967296 < 4294967296 := by omega
  have key := qzk (a / 4294967296) (a % 4294967296) (b / 4294967296) (b % 4294967296) hx0 hy0
  rw [show a / 4294967296 * 4294967296 + a % 4294967296 = a from by omega, show b / 4294967296 * 4294967296 + b % 4294967296 = b from by omega] at key
  have lo : IntKind.u64.wrap ((a : Int) * b) = ((a * b % 18446744073709551616 : Nat) : Int) := by rw [← Int.natCast_mul, qk7]
  simp -implicitDefEqProofs only [zA,reduceCtorEq,Nat.reduceEqDiff,Nat.reduceAdd,Int.reduceLT,Int.reduceToNat,j0e,qrl]
  generalize a / 4294967296 = x1 at *
  generalize a % 4294967296 = x0 at *
  generalize b / 4294967296 = y1 at *
  generalize b % 4294967296 = y0 at *
  have bd : ∀ x y : Nat, x < 4294967296 → y < 4294967296 → x * y ≤ 18446744065119617025 := fun x y h1 h2 => by
    have := Nat.mul_le_mul (show x ≤ 4294967295 by omega) (show y ≤ 4294967295 by omega)
    simpa using this
  have b00 := bd x0 y0 hx0 hy0
  have b10 := bd x1 y0 hx1 hy0
  have b01 := bd x0 y1 hx0 hy1
  have b11 := bd x1 y1 hx1 hy1
  have pr : ∀ x y : Nat, x * y ≤ 18446744065119617025 → IntKind.u64.wrap ((x : Int) * (y : Int)) = ((x * y : Nat) : Int) := fun x y h => by rw [← Int.natCast_mul]; exact qei (by omega)
  have ad : ∀ x y : Nat, x + y < 18446744073709551616 → IntKind.u64.wrap ((x : Int) + (y : Int)) = ((x + y : Nat) : Int) := fun x y h => by rw [← Int.natCast_add]; exact qei h
  rw [pr _ _ b00, pr _ _ b10, pr _ _ b01, pr _ _ b11, lo]
  generalize x0 * y0 = p00 at *
  generalize x1 * y0 = p10 at *
  generalize x0 * y1 = p01 at *
  generalize x1 * y1 = p11 at *
  have s1 := qrl p00
  rw [s1, ad p10 (p00 / 4294967296) (by omega)]
  rw [qrl, j0e, ad _ p01 (by omega), qrl, ad p11 _ (by omega), ad _ _ (by omega), key]
structure N3 where
  a : Nat
  b : Nat
  c : Nat
def N3.ok (x : N3) : Prop := x.a < 18446744073709551616 ∧ x.b < 18446744073709551616 ∧ x.c < 18446744073709551616
def N3.val (x : N3) : Nat := x.a + 18446744073709551616 * x.b + 340282366920938463463374607431768211456 * x.c
def N3.cells (x : N3) : List Value := [.int .u64 (x.a : Int), .int .u64 (x.b : Int), .int .u64 (x.c : Int)]
def N3.V (x : N3) : Value := .agg x.cells.toArray
def N3.plus (x y : N3) : N3 :=
  ⟨(x.a + y.a) % 18446744073709551616, (x.b + y.b + (x.a + y.a) / 18446744073709551616) % 18446744073709551616, (x.c + (y.c + (x.b + y.b + (x.a + y.a) / 18446744073709551616) / 18446744073709551616) % 18446744073709551616) % 18446744073709551616⟩
theorem N3.qac (x y : N3) : (x.plus y).ok := ⟨Nat.mod_lt _ (by decide), Nat.mod_lt _ (by decide), Nat.mod_lt _ (by decide)⟩
theorem N3.qww (x y : N3) : (x.plus y).val = (x.val + y.val) % 6277101735386680763835789423207666416102355444464034512896 := by
  unfold N3.plus N3.val
  simp only
  omega
theorem add64_0 (x y : Nat) : qrx .add64 [.int .u64 (x : Int), .int .u64 (y : Int), .int .u64 0] = some (.tuple #[.int .u64 (((x + y) % 18446744073709551616 : Nat) : Int), .int .u64 (((x + y) / 18446744073709551616 : Nat) : Int)]) := by
  simp [qrx]
theorem add64_c (x y c : Nat) (hc : c ≤ 1) : qrx .add64 [.int .u64 (x : Int), .int .u64 (y : Int), .int .u64 (c : Int)] = some (.tuple #[.int .u64 (((x + y + c) % 18446744073709551616 : Nat) : Int), .int .u64 (((x + y + c) / 18446744073709551616 : Nat) : Int)]) := by
  have : (c : Int) = 0 ∨ (c : Int) = 1 := by omega
  simp only [qrx, if_pos this, Int.toNat_natCast]
theorem qar (E : EnvT tab) (h : Heap) (x y : N3) (hx : x.ok) (hy : y.ok) : ACallN E.toEnv qp5 [x.V, y.V] h fun r h' => h.le h' ∧ r = (x.plus y).V := by
  obtain ⟨x0, x1, x2⟩ := x
  obtain ⟨y0, y1, y2⟩ := y
  obtain ⟨hx0, hx1, hx2⟩ := hx
  obtain ⟨hy0, hy1, hy2⟩ := hy
  simp only at hx0 hx1 hx2 hy0 hy1 hy2
  refine q0o qd0 q8b rfl rfl (q03 ?_)
  unfold q8b N3.V N3.cells
  have c1 : (((x0 + y0) / 18446744073709551616 : Nat) : Int) = 0 ∨ (((x0 + y0) / 18446744073709551616 : Nat) : Int) = 1 := by omega
  have w1 : IntKind.u64.wrap ((y2 : Int) + (((x1 + y1 + (x0 + y0) / 18446744073709551616) / 18446744073709551616 : Nat) : Int)) = (((y2 + (x1 + y1 + (x0 + y0) / 18446744073709551616) / 18446744073709551616) % 18446744073709551616 : Nat) : Int) := by rw [← Int.natCast_add, qk7]
  have w2 : IntKind.u64.wrap ((x2 : Int) + (((y2 + (x1 + y1 + (x0 + y0) / 18446744073709551616) / 18446744073709551616) % 18446744073709551616 : Nat) : Int)) = (((x2 + (y2 + (x1 + y1 + (x0 + y0) / 18446744073709551616) / 18446744073709551616) % 18446744073709551616) % 18446744073709551616 : Nat) : Int) := by rw [← Int.natCast_add, qk7]
  simp -implicitDefEqProofs only [zA,reduceCtorEq,Nat.reduceEqDiff,Nat.reduceAdd,Int.reduceLT,Int.reduceLE,Int.reduceToNat]
  intro b2 hb2 b3 hb3 b4 hb4
  try simp -implicitDefEqProofs only [zA,reduceIte,reduceCtorEq,Nat.reduceEqDiff,Nat.reduceAdd,Nat.reduceMul,Nat.reduceLT,Nat.reduceSub,Int.reduceLT,Int.reduceLE,Int.reduceEq,Int.reduceNe,Int.reduceSub,Int.reduceAdd,Int.reduceMul,Int.reduceBEq,Int.reduceBNe,Int.reduceGT,Int.reduceGE,Nat.reduceGT,Int.reduceToNat,Int.reduceNeg,Nat.reduceLeDiff,Nat.reduceBEq,Nat.reduceBneDiff]
  have q32 : b3 ≠ b2 := (Heap.q0b.1 hb3).1
  have q43 : b4 ≠ b3 := (Heap.q0b.1 hb4).1
  have hb4' := (Heap.q0b.1 hb4).2
  have q42 : b4 ≠ b2 := (Heap.q0b.1 hb4').1
  have f2 := fun {x : Blk} {H : Heap} {off : Nat} {s : Option Nat} => qe2 (h := H) (x := x) (off := off) (s := s) (Ne.symm q42)
  have f3 := fun {x : Blk} {H : Heap} {off : Nat} {s : Option Nat} => qe2 (h := H) (x := x) (off := off) (s := s) (Ne.symm q32)
  have f4 := fun {x : Blk} {H : Heap} {off : Nat} {s : Option Nat} => qe2 (h := H) (x := x) (off := off) (s := s) (Ne.symm q43)
  have g2 := fun {x : Blk} {H : Heap} {off n : Nat} {s : Option Nat} => qbw (h := H) (x := x) (off := off) (n := n) (s := s) (Ne.symm q42)
  have g3 := fun {x : Blk} {H : Heap} {off n : Nat} {s : Option Nat} => qbw (h := H) (x := x) (off := off) (n := n) (s := s) (Ne.symm q32)
  have t2 := fun {x : Blk} {H : Heap} {off size : Nat} {v : Value} {s : Option Nat} => qok (h := H) (x := x) (off := off) (size := size) (v := v) (s := s) (Ne.symm q42)
  have t3 := fun {x : Blk} {H : Heap} {off size : Nat} {v : Value} {s : Option Nat} => qok (h := H) (x := x) (off := off) (size := size) (v := v) (s := s) (Ne.symm q32)
  have st4 : ∀ (H : Heap) (us : List Value), us.length = 3 → us.all one = true → q0a (H.set b4 (.own 0 [.int .u64 0, .int .u64 0, .int .u64 0] 3)) 3 (.pointer (some ⟨b4, 0, none⟩)) (.agg us.toArray) = some (H.set b4 (.own 0 us 3)) := fun H us h1 h2 => z6z (by omega) h1 h2 rfl (by omega)
  have st4 := fun H (a b c : Int) => st4 H [.int .u64 a, .int .u64 b, .int .u64 c] rfl rfl
  have p1 := add64_0 x0 y0
  have p2 := add64_c x1 y1 ((x0 + y0) / 18446744073709551616) (by omega)
  simp -implicitDefEqProofs only [zA,Nat.reduceEqDiff,Nat.reduceAdd,Nat.reduceLT,Int.reduceLT,Int.reduceLE,Int.reduceToNat,f2,f3,f4,g2,g3,t2,t3,st4,p1,p2,w1,w2]
  exact ⟨Heap.q02 (Heap.q02 (Heap.q02 (Heap.q04 _) hb2 _) (Heap.q0b.1 hb3).2 _) (Heap.q0b.1 hb4').2 _, rfl⟩
theorem N3.ok2 (a b : Nat) (h : a * b < 340282366920938463463374607431768211456) : (⟨a * b % 18446744073709551616, a * b / 18446744073709551616, 0⟩ : N3).ok := ⟨Nat.mod_lt _ (by decide), by
  simp only
  generalize a * b = x at *
  omega, by simp⟩
theorem mul_lt {a b : Nat} (ha : a < 18446744073709551616) (hb : b < 18446744073709551616) : a * b < 340282366920938463463374607431768211456 := by
  have := Nat.mul_le_mul (show a ≤ 18446744073709551615 by omega) (show b ≤ 18446744073709551615 by omega)
  omega
def N3.col (s : N3) (a b : Nat) : N3 := s.plus ⟨a * b % 18446744073709551616, a * b / 18446744073709551616, 0⟩
theorem N3.j0k (s : N3) (a b : Nat) : (s.col a b).ok := N3.qac _ _
theorem qit {H : Heap} {b : Nat} {old : List Value} (x : N3) (h : H b = some (.own 0 old 3)) (hl : old.length = 3) : q0a H 3 (.pointer (some ⟨b, 0, none⟩)) x.V = some (H.set b (.own 0 x.cells 3)) := by
  unfold N3.V; exact q0f h (by omega) rfl rfl hl (by omega)
theorem qic (E : EnvT tab) (h : Heap) (s : N3) (a b : Nat) (hs : s.ok) (ha : a < 18446744073709551616) (hb : b < 18446744073709551616) :
    ACallN E.toEnv qs2 [s.V, .int .u64 (a : Int), .int .u64 (b : Int)] h fun r h' => h.le h' ∧ r = (s.col a b).V := by
  obtain ⟨s0, s1, s2⟩ := s
  refine q0o qfn qbb rfl rfl (q03 ?_)
  unfold qbb N3.V N3.cells
  simp -implicitDefEqProofs only [zA,reduceCtorEq,Nat.reduceEqDiff,Nat.reduceAdd]
  intro b3 hb3 b6 hb6
  try simp -implicitDefEqProofs only [zA,reduceIte,reduceCtorEq,Nat.reduceEqDiff,Nat.reduceAdd,Nat.reduceMul,Nat.reduceLT,Nat.reduceSub,Int.reduceLT,Int.reduceLE,Int.reduceEq,Int.reduceNe,Int.reduceSub,Int.reduceAdd,Int.reduceMul,Int.reduceBEq,Int.reduceBNe,Int.reduceGT,Int.reduceGE,Nat.reduceGT,Int.reduceToNat,Int.reduceNeg,Nat.reduceLeDiff,Nat.reduceBEq,Nat.reduceBneDiff]
  have n63 := (Heap.q0b.1 hb6).1
  have hb6' := (Heap.q0b.1 hb6).2
  have le1 : h.le ((h.set b3 (.own 0 [.int .u64 (s0 : Int), .int .u64 (s1 : Int), .int .u64 (s2 : Int)] 3)).set b6 (.own 0 [.int .u64 0, .int .u64 0, .int .u64 0] 3)) := Heap.q02 (Heap.q02 (Heap.q04 _) hb3 _) hb6' _
  have q6 : ((h.set b3 (.own 0 [.int .u64 (s0 : Int), .int .u64 (s1 : Int), .int .u64 (s2 : Int)] 3)).set b6 (.own 0 [.int .u64 0, .int .u64 0, .int .u64 0] 3)) b6 = some (.own 0 [.int .u64 0, .int .u64 0, .int .u64 0] 3) := Heap.q01 _ _ _
  have q3 : q05 ((h.set b3 (.own 0 [.int .u64 (s0 : Int), .int .u64 (s1 : Int), .int .u64 (s2 : Int)] 3)).set b6 (.own 0 [.int .u64 0, .int .u64 0, .int .u64 0] 3)) ⟨b3, 0, none⟩ 3 = some [.int .u64 (s0 : Int), .int .u64 (s1 : Int), .int .u64 (s2 : Int)] := by rw [qbw (Ne.symm n63)]; exact z6x rfl
  generalize ((h.set b3 (.own 0 [.int .u64 (s0 : Int), .int .u64 (s1 : Int), .int .u64 (s2 : Int)] 3)).set b6 (.own 0 [.int .u64 0, .int .u64 0, .int .u64 0] 3)) = h1 at le1 q6 q3
  refine (j0l E _ a b ha hb).mono ?_
  rintro r h' ⟨rfl, rfl⟩
  simp -implicitDefEqProofs only [zA,Nat.reduceEqDiff,Nat.reduceAdd,Nat.reduceLeDiff,q3]
  refine (qar E h' ⟨s0, s1, s2⟩ ⟨a * b % 18446744073709551616, a * b / 18446744073709551616, 0⟩ hs (N3.ok2 a b (mul_lt ha hb))).mono ?_
  rintro r h2 ⟨le2, rfl⟩
  have st := qit (((⟨s0, s1, s2⟩ : N3)).plus ⟨a * b % 18446744073709551616, a * b / 18446744073709551616, 0⟩) (le2 _ _ q6) rfl
  have hl := z6x (h := h2) (b := b6) (vs := (((⟨s0, s1, s2⟩ : N3)).plus ⟨a * b % 18446744073709551616, a * b / 18446744073709551616, 0⟩).cells) (sz := 3) (n := 3) rfl
  simp -implicitDefEqProofs only [zA,Nat.reduceEqDiff,st,hl]
  exact ⟨Heap.q02 (Heap.q00 le1 le2) hb6' _, rfl⟩
theorem and_3 (a : Nat) : IntKind.u64.wrap ((BitVec.ofInt IntKind.u64.bits (a : Int) &&& BitVec.ofInt IntKind.u64.bits 3).toNat : Int) = ((a % 4 : Nat) : Int) := by
  have e : (BitVec.ofInt IntKind.u64.bits (a : Int) &&& BitVec.ofInt IntKind.u64.bits 3).toNat = a % 4 := by
    rw [show IntKind.u64.bits = 64 from rfl, show BitVec.ofInt 64 3 = BitVec.ofNat 64 (2 ^ 2 - 1) from rfl, q1d, BitVec.toNat_and, BitVec.toNat_ofNat, BitVec.toNat_ofNat]
    rw [Nat.mod_eq_of_lt (show 2 ^ 2 - 1 < 2 ^ 64 by decide), Nat.and_two_pow_sub_one_eq_mod]
    omega
  rw [e]
  exact qei (by omega)
theorem shr_2 (a : Nat) : (a : Int).fdiv (2 ^ (min (Int.toNat 2) IntKind.u64.bits)) = ((a / 4 : Nat) : Int) := by
  rw [show min (Int.toNat 2) IntKind.u64.bits = 2 from rfl, Int.fdiv_eq_ediv_of_nonneg _ (by decide)]
  simp
theorem shr_2' (a : Nat) : (a : Int).fdiv (2 ^ (min 2 IntKind.u64.bits)) = ((a / 4 : Nat) : Int) := shr_2 a
def N3.cut (x : N3) : N3 := (⟨x.a, x.b, x.c % 4⟩ : N3).plus ⟨x.c / 4 * 5 % 18446744073709551616, x.c / 4 * 5 / 18446744073709551616, 0⟩
theorem N3.qrd (x : N3) : x.cut.ok := N3.qac _ _
theorem qp3 (E : EnvT tab) (h : Heap) (x : N3) (hx : x.ok) : ACallN E.toEnv qq4 [x.V] h fun r h' => h.le h' ∧ r = x.cut.V := by
  obtain ⟨s0, s1, s2⟩ := x
  obtain ⟨k0, k1, k2⟩ := hx
  simp only at k0 k1 k2
  refine q0o qeb q9d rfl rfl (q03 ?_)
  unfold q9d N3.V N3.cells
  simp -implicitDefEqProofs only [zA,reduceCtorEq,Nat.reduceEqDiff,Nat.reduceAdd,Int.reduceLT,Int.reduceLE,Int.reduceToNat]
  intro b3 hb3 b6 hb6
  try simp -implicitDefEqProofs only [zA,reduceIte,reduceCtorEq,Nat.reduceEqDiff,Nat.reduceAdd,Nat.reduceMul,Nat.reduceLT,Nat.reduceSub,Int.reduceLT,Int.reduceLE,Int.reduceEq,Int.reduceNe,Int.reduceSub,Int.reduceAdd,Int.reduceMul,Int.reduceBEq,Int.reduceBNe,Int.reduceGT,Int.reduceGE,Nat.reduceGT,Int.reduceToNat,Int.reduceNeg,Nat.reduceLeDiff,Nat.reduceBEq,Nat.reduceBneDiff]
  have n63 := (Heap.q0b.1 hb6).1
  have hb6' := (Heap.q0b.1 hb6).2
  have le1 : h.le ((h.set b3 (.own 0 [.int .u64 (s0 : Int), .int .u64 (s1 : Int), .int .u64 ((s2 % 4 : Nat) : Int)] 3)).set b6 (.own 0 [.int .u64 0, .int .u64 0, .int .u64 0] 3)) := Heap.q02 (Heap.q02 (Heap.q04 _) hb3 _) hb6' _
  have q6 : ((h.set b3 (.own 0 [.int .u64 (s0 : Int), .int .u64 (s1 : Int), .int .u64 ((s2 % 4 : Nat) : Int)] 3)).set b6 (.own 0 [.int .u64 0, .int .u64 0, .int .u64 0] 3)) b6 = some (.own 0 [.int .u64 0, .int .u64 0, .int .u64 0] 3) := Heap.q01 _ _ _
  have q3 : q05 ((h.set b3 (.own 0 [.int .u64 (s0 : Int), .int .u64 (s1 : Int), .int .u64 ((s2 % 4 : Nat) : Int)] 3)).set b6 (.own 0 [.int .u64 0, .int .u64 0, .int .u64 0] 3)) ⟨b3, 0, none⟩ 3 = some [.int .u64 (s0 : Int), .int .u64 (s1 : Int), .int .u64 ((s2 % 4 : Nat) : Int)] := by rw [qbw (Ne.symm n63)]; exact z6x rfl
  have f3 := fun {x : Blk} {H : Heap} {off : Nat} {s : Option Nat} => qe2 (h := H) (x := x) (off := off) (s := s) (Ne.symm n63)
  have t3 := fun {x : Blk} {H : Heap} {off size : Nat} {v : Value} {s : Option Nat} => qok (h := H) (x := x) (off := off) (size := size) (v := v) (s := s) (Ne.symm n63)
  simp -implicitDefEqProofs only [zA,Nat.reduceEqDiff,Nat.reduceAdd,Nat.reduceLT,Int.reduceLT,Int.reduceLE,Int.reduceToNat,f3,t3,and_3,shr_2']
  generalize ((h.set b3 (.own 0 [.int .u64 (s0 : Int), .int .u64 (s1 : Int), .int .u64 ((s2 % 4 : Nat) : Int)] 3)).set b6 (.own 0 [.int .u64 0, .int .u64 0, .int .u64 0] 3)) = h1 at le1 q6 q3 ⊢
  refine (j0l E _ (s2 / 4) 5 (by omega) (by decide)).mono ?_
  rintro r h' ⟨rfl, rfl⟩
  simp -implicitDefEqProofs only [zA,Nat.reduceEqDiff,Nat.reduceAdd,Nat.reduceLeDiff,q3]
  refine (qar E h' ⟨s0, s1, s2 % 4⟩ ⟨s2 / 4 * 5 % 18446744073709551616, s2 / 4 * 5 / 18446744073709551616, 0⟩ ⟨k0, k1, by simp only; omega⟩ (N3.ok2 (s2 / 4) 5 (mul_lt (by omega) (by decide)))).mono ?_
  rintro r h2 ⟨le2, rfl⟩
  have st := qit ((⟨s0, s1, s2 % 4⟩ : N3).plus ⟨s2 / 4 * 5 % 18446744073709551616, s2 / 4 * 5 / 18446744073709551616, 0⟩) (le2 _ _ q6) rfl
  have hl := z6x (h := h2) (b := b6) (vs := ((⟨s0, s1, s2 % 4⟩ : N3).plus ⟨s2 / 4 * 5 % 18446744073709551616, s2 / 4 * 5 / 18446744073709551616, 0⟩).cells) (sz := 3) (n := 3) rfl
  simp -implicitDefEqProofs only [zA,Nat.reduceEqDiff,st,hl]
  exact ⟨Heap.q02 (Heap.q00 le1 le2) hb6' _, rfl⟩
def N3.last (x : N3) : N3 :=
  if 3 < (x.cut.cut.plus ⟨5, 0, 0⟩).c then ⟨(x.cut.cut.plus ⟨5, 0, 0⟩).a, (x.cut.cut.plus ⟨5, 0, 0⟩).b, (x.cut.cut.plus ⟨5, 0, 0⟩).c % 4⟩ else x.cut.cut
theorem N3.last_ok (x : N3) : x.last.ok := by
  unfold N3.last
  split
  · have := N3.qac x.cut.cut ⟨5, 0, 0⟩
    exact ⟨this.1, this.2.1, by simp only; omega⟩
  · exact N3.qrd _
theorem ok5 : (⟨5, 0, 0⟩ : N3).ok := ⟨by simp, by simp, by simp⟩
theorem qxc (E : EnvT tab) (h : Heap) (x : N3) (hx : x.ok) : ACallN E.toEnv qp6 [x.V] h fun r h' => h.le h' ∧ r = x.last.V := by
  refine q0o qd1 q8c rfl rfl (q03 ?_)
  unfold q8c
  have eV : x.V = .agg #[.int .u64 (x.a : Int), .int .u64 (x.b : Int), .int .u64 (x.c : Int)] := rfl
  rw [eV]
  simp -implicitDefEqProofs only [zA,reduceCtorEq,Nat.reduceEqDiff,Nat.reduceAdd]
  intro b1 hb1 b2 hb2
  try simp -implicitDefEqProofs only [zA,reduceIte,reduceCtorEq,Nat.reduceEqDiff,Nat.reduceAdd,Nat.reduceMul,Nat.reduceLT,Nat.reduceSub,Int.reduceLT,Int.reduceLE,Int.reduceEq,Int.reduceNe,Int.reduceSub,Int.reduceAdd,Int.reduceMul,Int.reduceBEq,Int.reduceBNe,Int.reduceGT,Int.reduceGE,Nat.reduceGT,Int.reduceToNat,Int.reduceNeg,Nat.reduceLeDiff,Nat.reduceBEq,Nat.reduceBneDiff]
  have n21 := (Heap.q0b.1 hb2).1
  have hb2' := (Heap.q0b.1 hb2).2
  have le1 : h.le ((h.set b1 (.own 0 [.int .u64 (x.a : Int), .int .u64 (x.b : Int), .int .u64 (x.c : Int)] 3)).set b2 (.own 0 [.int .u64 0, .int .u64 0, .int .u64 0] 3)) := Heap.q02 (Heap.q02 (Heap.q04 _) hb1 _) hb2' _
  have q2 : ((h.set b1 (.own 0 [.int .u64 (x.a : Int), .int .u64 (x.b : Int), .int .u64 (x.c : Int)] 3)).set b2 (.own 0 [.int .u64 0, .int .u64 0, .int .u64 0] 3)) b2 = some (.own 0 [.int .u64 0, .int .u64 0, .int .u64 0] 3) := Heap.q01 _ _ _
  have q1 : ((h.set b1 (.own 0 [.int .u64 (x.a : Int), .int .u64 (x.b : Int), .int .u64 (x.c : Int)] 3)).set b2 (.own 0 [.int .u64 0, .int .u64 0, .int .u64 0] 3)) b1 = some (.own 0 x.cells 3) := by rw [Heap.q0d (Ne.symm n21), Heap.q01]; rfl
  generalize ((h.set b1 (.own 0 [.int .u64 (x.a : Int), .int .u64 (x.b : Int), .int .u64 (x.c : Int)] 3)).set b2 (.own 0 [.int .u64 0, .int .u64 0, .int .u64 0] 3)) = h1 at le1 q1 q2 ⊢
  have l1 : q05 h1 ⟨b1, 0, none⟩ 3 = some x.cells := by rw [q0l q1 (by simp [N3.cells])]; rfl
  have eX : Value.agg x.cells.toArray = x.V := rfl
  simp -implicitDefEqProofs only [zA,Nat.reduceEqDiff,l1,eX]
  refine (qp3 E h1 x hx).mono ?_
  rintro r h2 ⟨le2, rfl⟩
  simp -implicitDefEqProofs only [zA,Nat.reduceEqDiff]
  refine (qp3 E h2 x.cut (N3.qrd _)).mono ?_
  rintro r h3 ⟨le3, rfl⟩
  have st1 := qit x.cut.cut (le3 _ _ (le2 _ _ q1)) rfl
  have l1 : q05 (h3.set b1 (.own 0 x.cut.cut.cells 3)) ⟨b1, 0, none⟩ 3 = some x.cut.cut.cells := z6x rfl
  have eC : Value.agg x.cut.cut.cells.toArray = x.cut.cut.V := rfl
  simp -implicitDefEqProofs only [zA,Nat.reduceEqDiff,Nat.reduceAdd,Nat.reduceLeDiff,st1,l1,eC]
  have hyA : x.cut.cut.ok := N3.qrd _
  have hl : x.last = if 3 < (x.cut.cut.plus ⟨5, 0, 0⟩).c then ⟨(x.cut.cut.plus ⟨5, 0, 0⟩).a, (x.cut.cut.plus ⟨5, 0, 0⟩).b, (x.cut.cut.plus ⟨5, 0, 0⟩).c % 4⟩ else x.cut.cut := rfl
  rw [hl]
  have q2' := le3 _ _ (le2 _ _ q2)
  have le13 := Heap.q00 le1 (Heap.q00 le2 le3)
  generalize x.cut.cut = y at *
  have le4 : h.le (h3.set b1 (.own 0 y.cells 3)) := Heap.q02 le13 hb1 _
  have q24 : (h3.set b1 (.own 0 y.cells 3)) b2 = some (.own 0 [.int .u64 0, .int .u64 0, .int .u64 0] 3) := by rw [Heap.q0d n21]; exact q2'
  have q14 : (h3.set b1 (.own 0 y.cells 3)) b1 = some (.own 0 y.cells 3) := Heap.q01 _ _ _
  generalize (h3.set b1 (.own 0 y.cells 3)) = h4 at le4 q24 q14 ⊢
  refine (qar E h4 y ⟨5, 0, 0⟩ hyA ok5).mono ?_
  rintro r h5 ⟨le5, rfl⟩
  have hz := N3.qac y ⟨5, 0, 0⟩
  generalize y.plus ⟨5, 0, 0⟩ = z at *
  simp -implicitDefEqProofs only [zA,Nat.reduceEqDiff,Nat.reduceAdd]
  intro b3 hb3
  have q25 := le5 _ _ q24
  have q15 := le5 _ _ q14
  have st3 : q0a (h5.set b3 (.own 0 [.int .u64 0, .int .u64 0, .int .u64 0] 3)) 3 (.pointer (some ⟨b3, 0, none⟩)) z.V = some (h5.set b3 (.own 0 z.cells 3)) := z6z (by omega) rfl rfl rfl (by omega)
  have n32 := q06 hb3 q25
  have n31 := q06 hb3 q15
  have l3 : q0x (h5.set b3 (.own 0 z.cells 3)) ⟨b3, 2, none⟩ = some (.int .u64 (z.c : Int)) := z6w (by simp [N3.cells])
  have le6 : h.le (h5.set b3 (.own 0 z.cells 3)) := Heap.q1c (Heap.q00 le4 le5) hb3 _
  have hb3' : h b3 = none := Heap.q08 (Heap.q00 le4 le5) hb3
  by_cases g : 3 < z.c
  · have g' : (3 : Int) < z.c := by omega
    rw [if_pos g]
    have l4 : q0a (h5.set b3 (.own 0 z.cells 3)) 1 (.pointer (some ⟨b3, 2, none⟩)) (.int .u64 ((z.c % 4 : Nat) : Int)) = some (h5.set b3 (.own 0 (⟨z.a, z.b, z.c % 4⟩ : N3).cells 3)) := z6y rfl (by simp [N3.cells]) (by simp [N3.cells])
    have l5 : q05 (h5.set b3 (.own 0 (⟨z.a, z.b, z.c % 4⟩ : N3).cells 3)) ⟨b3, 0, none⟩ 3 = some (⟨z.a, z.b, z.c % 4⟩ : N3).cells := z6x rfl
    have st6 : q0a (h5.set b3 (.own 0 (⟨z.a, z.b, z.c % 4⟩ : N3).cells 3)) 3 (.pointer (some ⟨b2, 0, none⟩)) (.agg (⟨z.a, z.b, z.c % 4⟩ : N3).cells.toArray) = _ := qit (⟨z.a, z.b, z.c % 4⟩ : N3) (by rw [Heap.q0d n32]; exact q25) rfl
    have l6 := z6x (h := h5.set b3 (.own 0 (⟨z.a, z.b, z.c % 4⟩ : N3).cells 3)) (b := b2) (vs := (⟨z.a, z.b, z.c % 4⟩ : N3).cells) (sz := 3) (n := 3) rfl
    simp -implicitDefEqProofs only [zA,Nat.reduceEqDiff,Int.reduceLT,Int.reduceLE,Int.reduceToNat,st3,l3,g',and_3,l4,l5,st6,l6]
    exact ⟨Heap.q02 (Heap.q1c (Heap.q00 le4 le5) hb3 _) hb2' _, rfl⟩
  · have g' : ¬ (3 : Int) < z.c := by omega
    have g2 : (z.c : Int) ≤ 3 := by omega
    rw [if_neg g]
    have l5 : q05 (h5.set b3 (.own 0 z.cells 3)) ⟨b1, 0, none⟩ 3 = some y.cells := by rw [qbw n31, q0l q15 (by simp [N3.cells])]; rfl
    have st6 : q0a (h5.set b3 (.own 0 z.cells 3)) 3 (.pointer (some ⟨b2, 0, none⟩)) (.agg y.cells.toArray) = _ := qit y (by rw [Heap.q0d n32]; exact q25) rfl
    have l6 := z6x (h := h5.set b3 (.own 0 z.cells 3)) (b := b2) (vs := y.cells) (sz := 3) (n := 3) rfl
    simp -implicitDefEqProofs only [zA,Nat.reduceEqDiff,Int.reduceLT,Int.reduceLE,Int.reduceToNat,st3,l3,g',l5,st6,l6]
    exact ⟨Heap.q02 le6 hb2' _, rfl⟩
def z3 : N3 := ⟨0, 0, 0⟩
theorem qud : z3.ok := ⟨by simp [z3], by simp [z3], by simp [z3]⟩
def q3t (x : N3) (r0 r1 : Nat) : Nat → N3
  | 0 => z3.col x.a r0
  | 1 => (z3.col x.a r1).col x.b r0
  | 2 => (z3.col x.b r1).col x.c r0
  | _ => z3.col x.c r1
theorem colsF_ok (x : N3) (r0 r1 i : Nat) : (q3t x r0 r1 i).ok := by
  unfold q3t
  split <;> exact N3.j0k _ _ _
def q2j (C : Nat → N3) : Nat → N3
  | 0 => z3
  | i + 1 => ⟨((q2j C i).plus (C i)).b, ((q2j C i).plus (C i)).c, 0⟩
def outW (C : Nat → N3) (i : Nat) : Nat := ((q2j C i).plus (C i)).a
theorem j07 (C : Nat → N3) : ∀ i, (q2j C i).ok
  | 0 => qud
  | i + 1 => by
      have := N3.qac (q2j C i) (C i)
      exact ⟨this.2.1, this.2.2, by simp [q2j]⟩
def q87 (x y : N3) : Nat → N3
  | 0 => x
  | n + 1 => (q87 x y n).plus y
def lowF (C : Nat → N3) : N3 := ⟨outW C 0, outW C 1, outW C 2 % 4⟩
def qle (C : Nat → N3) : N3 := ⟨outW C 2 / 4 + outW C 3 % 4 * 4611686018427387904, outW C 3 / 4, 0⟩
theorem qgm (C : Nat → N3) (i : Nat) : outW C i < 18446744073709551616 := (N3.qac (q2j C i) (C i)).1
theorem qzn (C : Nat → N3) : (lowF C).ok := ⟨qgm C 0, qgm C 1, by simp only [lowF]; omega⟩
theorem highF_ok (C : Nat → N3) : (qle C).ok := ⟨by have := qgm C 2; simp only [qle]; omega, by have := qgm C 3; simp only [qle]; omega, by simp [qle]⟩
theorem qws {x y : N3} (hx : x.ok) : ∀ n, (q87 x y n).ok
  | 0 => hx
  | n + 1 => N3.qac _ _
def N3.times (x : N3) (r0 r1 : Nat) : N3 := (q87 (lowF (q3t x r0 r1)) (qle (q3t x r0 r1)) 5).cut
def rowQ (f : Nat → Nat) (n : Nat) : List Value := (List.range n).map fun j => .int .u64 ((f j : Nat) : Int)
theorem qrr (f : Nat → Nat) (n : Nat) : (rowQ f n).length = n := by simp [rowQ]
theorem qrs (f : Nat → Nat) {n j : Nat} (h : j < (rowQ f n).length) : (rowQ f n)[j] = .int .u64 ((f j : Nat) : Int) := by simp [rowQ]
theorem rowQ_set (f : Nat → Nat) (n i z : Nat) : (rowQ f n).set i (.int .u64 (z : Int)) = rowQ (fun j => if j = i then z else f j) n := by
  apply List.ext_getElem
  · simp [rowQ]
  · intro j h1 h2
    rw [List.getElem_set, qrs, qrs]
    by_cases e : i = j
    · subst e; simp
    · rw [if_neg e]; simp [Ne.symm e]
theorem qrt {H : Heap} {b n j sz : Nat} {f : Nat → Nat} (h : H b = some (.own 0 (rowQ f n) sz)) (hj : j < n) : q0x H ⟨b, j, none⟩ = some (.int .u64 ((f j : Nat) : Int)) := by
  rw [q0k h (by rw [qrr]; exact hj), qrs]
theorem qx3 {H : Heap} {b n j z : Nat} {f : Nat → Nat} (h : H b = some (.own 0 (rowQ f n) n)) (hj : j < n) : q0a H 1 (.pointer (some ⟨b, j, none⟩)) (.int .u64 (z : Int)) = some (H.set b (.own 0 (rowQ (fun k => if k = j then z else f k) n) n)) := by
  rw [q0q h rfl (by rw [qrr]; exact hj) (by rw [qrr]; omega), rowQ_set]
theorem qyt (g : Nat → Nat) (i n : Nat) : rowQ (fun k => if k = i then g i else (if k < i then g k else 0)) n = rowQ (fun k => if k < i + 1 then g k else 0) n := by
  unfold rowQ
  apply List.map_congr_left
  intro j _
  by_cases e : j = i
  · subst e; simp
  · simp only [e, if_false]
    by_cases e2 : j < i
    · rw [if_pos e2, if_pos (by omega)]
    · rw [if_neg e2, if_neg (by omega)]
def LST (C : Nat → N3) : List Value := (C 0).cells ++ ((C 1).cells ++ ((C 2).cells ++ (C 3).cells))
theorem LST_at (C : Nat → N3) (i : Nat) (h : i < 4) : ((LST C).drop (i * 3)).take 3 = (C i).cells := by
  match i, h with
  | 0, _ => rfl
  | 1, _ => rfl
  | 2, _ => rfl
  | 3, _ => rfl
theorem shl_62 (a : Nat) : IntKind.u64.wrap ((a : Int) * 2 ^ (min (Int.toNat 62) IntKind.u64.bits)) = ((a % 4 * 4611686018427387904 : Nat) : Int) := by
  rw [show min (Int.toNat 62) IntKind.u64.bits = 62 from rfl]
  have : (a : Int) * 2 ^ 62 = ((a * 4611686018427387904 : Nat) : Int) := by simp
  rw [this, qk7]
  congr 1
  omega
theorem shl_62' (a : Nat) : IntKind.u64.wrap ((a : Int) * 2 ^ (min 62 IntKind.u64.bits)) = ((a % 4 * 4611686018427387904 : Nat) : Int) := shl_62 a
theorem or_hi (a c : Nat) (ha : a < 4611686018427387904) (hc : c < 4) : IntKind.u64.wrap ((BitVec.ofInt IntKind.u64.bits (a : Int) ||| BitVec.ofInt IntKind.u64.bits ((c * 4611686018427387904 : Nat) : Int)).toNat : Int) = ((a + c * 4611686018427387904 : Nat) : Int) := by
  have e : (BitVec.ofInt IntKind.u64.bits (a : Int) ||| BitVec.ofInt IntKind.u64.bits ((c * 4611686018427387904 : Nat) : Int)).toNat = a + c * 4611686018427387904 := by
    rw [show IntKind.u64.bits = 64 from rfl, q1d, q1d, BitVec.toNat_or, BitVec.toNat_ofNat, BitVec.toNat_ofNat]
    rw [Nat.mod_eq_of_lt (show a < 2 ^ 64 by omega), Nat.mod_eq_of_lt (show c * 4611686018427387904 < 2 ^ 64 by omega)]
    have h := Nat.shiftLeft_add_eq_or_of_lt (i := 62) (b := a) (by omega) c
    rw [Nat.shiftLeft_eq] at h
    rw [Nat.or_comm, show c * 4611686018427387904 = c * 2 ^ 62 from rfl, ← h]
    omega
  rw [e]
  exact qei (by omega)
theorem quv (E : EnvT tab) (h : Heap) (x : N3) (r0 r1 : Nat) (hx : x.ok) (h0 : r0 < 18446744073709551616) (h1 : r1 < 18446744073709551616) :
    ACallN E.toEnv qnq [x.V, .agg #[.int .u64 (r0 : Int), .int .u64 (r1 : Int)]] h fun r h' => h.le h' ∧ r = (x.times r0 r1).V := by
  refine q0o qc2 q76 rfl rfl (q03 ?_)
  unfold q76
  have eV : x.V = .agg #[.int .u64 (x.a : Int), .int .u64 (x.b : Int), .int .u64 (x.c : Int)] := rfl
  rw [eV]
  simp -implicitDefEqProofs only [zA,reduceCtorEq,Nat.reduceEqDiff,Nat.reduceAdd,Int.reduceLT,Int.reduceLE,Int.reduceToNat]
  intro b2 hb2 b3 hb3 b4 hb4
  try simp -implicitDefEqProofs only [zA,reduceIte,reduceCtorEq,Nat.reduceEqDiff,Nat.reduceAdd,Nat.reduceMul,Nat.reduceLT,Nat.reduceSub,Int.reduceLT,Int.reduceLE,Int.reduceEq,Int.reduceNe,Int.reduceSub,Int.reduceAdd,Int.reduceMul,Int.reduceBEq,Int.reduceBNe,Int.reduceGT,Int.reduceGE,Nat.reduceGT,Int.reduceToNat,Int.reduceNeg,Nat.reduceLeDiff,Nat.reduceBEq,Nat.reduceBneDiff]
  have n32 := (Heap.q0b.1 hb3).1
  have n43 := (Heap.q0b.1 hb4).1
  have hb4' := (Heap.q0b.1 hb4).2
  have n42 := (Heap.q0b.1 hb4').1
  have hb4'' := (Heap.q0b.1 hb4').2
  have hb3' := (Heap.q0b.1 hb3).2
  have leA : h.le (((h.set b2 (.own 0 [.int .u64 (x.a : Int), .int .u64 (x.b : Int), .int .u64 (x.c : Int)] 3)).set b3 (.own 0 [.int .u64 (r0 : Int), .int .u64 (r1 : Int)] 2)).set b4 (.own 0 [.int .u64 0, .int .u64 0, .int .u64 0] 3)) := Heap.q02 (Heap.q02 (Heap.q02 (Heap.q04 _) hb2 _) hb3' _) hb4'' _
  have q4 : (((h.set b2 (.own 0 [.int .u64 (x.a : Int), .int .u64 (x.b : Int), .int .u64 (x.c : Int)] 3)).set b3 (.own 0 [.int .u64 (r0 : Int), .int .u64 (r1 : Int)] 2)).set b4 (.own 0 [.int .u64 0, .int .u64 0, .int .u64 0] 3)) b4 = some (.own 0 [.int .u64 0, .int .u64 0, .int .u64 0] 3) := Heap.q01 _ _ _
  have q3 : (((h.set b2 (.own 0 [.int .u64 (x.a : Int), .int .u64 (x.b : Int), .int .u64 (x.c : Int)] 3)).set b3 (.own 0 [.int .u64 (r0 : Int), .int .u64 (r1 : Int)] 2)).set b4 (.own 0 [.int .u64 0, .int .u64 0, .int .u64 0] 3)) b3 = some (.own 0 [.int .u64 (r0 : Int), .int .u64 (r1 : Int)] 2) := by rw [Heap.q0d (Ne.symm n43), Heap.q01]
  have q2 : (((h.set b2 (.own 0 [.int .u64 (x.a : Int), .int .u64 (x.b : Int), .int .u64 (x.c : Int)] 3)).set b3 (.own 0 [.int .u64 (r0 : Int), .int .u64 (r1 : Int)] 2)).set b4 (.own 0 [.int .u64 0, .int .u64 0, .int .u64 0] 3)) b2 = some (.own 0 [.int .u64 (x.a : Int), .int .u64 (x.b : Int), .int .u64 (x.c : Int)] 3) := by rw [Heap.q0d (Ne.symm n42), Heap.q0d (Ne.symm n32), Heap.q01]
  generalize (((h.set b2 (.own 0 [.int .u64 (x.a : Int), .int .u64 (x.b : Int), .int .u64 (x.c : Int)] 3)).set b3 (.own 0 [.int .u64 (r0 : Int), .int .u64 (r1 : Int)] 2)).set b4 (.own 0 [.int .u64 0, .int .u64 0, .int .u64 0] 3)) = h1' at leA q4 q3 q2 ⊢
  have ld : ∀ H, h1'.le H → q0x H ⟨b2, 0, none⟩ = some (.int .u64 (x.a : Int)) ∧ q0x H ⟨b2, 1, none⟩ = some (.int .u64 (x.b : Int)) ∧ q0x H ⟨b2, 2, none⟩ = some (.int .u64 (x.c : Int)) ∧ q0x H ⟨b3, 0, none⟩ = some (.int .u64 (r0 : Int)) ∧ q0x H ⟨b3, 1, none⟩ = some (.int .u64 (r1 : Int)) := fun H hle =>
    ⟨q0k (hle _ _ q2) (by simp), q0k (hle _ _ q2) (by simp), q0k (hle _ _ q2) (by simp), q0k (hle _ _ q3) (by simp), q0k (hle _ _ q3) (by simp)⟩
  obtain ⟨a1, a2, a3, a4, a5⟩ := ld h1' (Heap.q04 _)
  obtain ⟨hx0, hx1, hx2⟩ := hx
  simp -implicitDefEqProofs only [zA,Nat.reduceEqDiff,Int.reduceLT,Int.reduceLE,Int.reduceToNat,a1,a4]
  refine (qic E h1' z3 x.a r0 qud hx0 h0).mono ?_
  rintro r h2 ⟨le2, rfl⟩
  obtain ⟨c1, c2, c3, c4, c5⟩ := ld h2 le2
  simp -implicitDefEqProofs only [zA,Nat.reduceEqDiff,Int.reduceLT,Int.reduceLE,Int.reduceToNat,a1,a5,c1,c5,List.mem_cons,forall_eq_or_imp,implies_true,List.not_mem_nil]
  refine (qic E h2 z3 x.a r1 qud hx0 h1).mono ?_
  rintro r h3 ⟨le3, rfl⟩
  have le3' := Heap.q00 le2 le3
  obtain ⟨d1, d2, d3, d4, d5⟩ := ld h3 le3'
  simp -implicitDefEqProofs only [zA,Nat.reduceEqDiff,Nat.reduceAdd,Int.reduceLT,Int.reduceLE,Int.reduceToNat,a2,a4,c2,c4,d2,d4,List.mem_cons,forall_eq_or_imp,implies_true,List.not_mem_nil]
  refine (qic E h3 (z3.col x.a r1) x.b r0 (N3.j0k _ _ _) hx1 h0).mono ?_
  rintro r h4 ⟨le4, rfl⟩
  have le4' := Heap.q00 le3' le4
  obtain ⟨e1, e2, e3, e4, e5⟩ := ld h4 le4'
  simp -implicitDefEqProofs only [zA,Nat.reduceEqDiff,Nat.reduceAdd,Int.reduceLT,Int.reduceLE,Int.reduceToNat,a2,a5,c2,c5,d2,d5,e2,e5,List.mem_cons,forall_eq_or_imp,implies_true,List.not_mem_nil]
  refine (qic E h4 z3 x.b r1 qud hx1 h1).mono ?_
  rintro r h5 ⟨le5, rfl⟩
  have le5' := Heap.q00 le4' le5
  obtain ⟨f1, f2, f3, f4, f5⟩ := ld h5 le5'
  simp -implicitDefEqProofs only [zA,Nat.reduceEqDiff,Nat.reduceAdd,Int.reduceLT,Int.reduceLE,Int.reduceToNat,a3,a4,c3,c4,d3,d4,e3,e4,f3,f4,List.mem_cons,forall_eq_or_imp,implies_true,List.not_mem_nil]
  refine (qic E h5 (z3.col x.b r1) x.c r0 (N3.j0k _ _ _) hx2 h0).mono ?_
  rintro r h6 ⟨le6, rfl⟩
  have le6' := Heap.q00 le5' le6
  obtain ⟨g1, g2, g3, g4, g5⟩ := ld h6 le6'
  simp -implicitDefEqProofs only [zA,Nat.reduceEqDiff,Nat.reduceAdd,Int.reduceLT,Int.reduceLE,Int.reduceToNat,a3,a5,c3,c5,d3,d5,e3,e5,f3,f5,g3,g5,List.mem_cons,forall_eq_or_imp,implies_true,List.not_mem_nil]
  refine (qic E h6 z3 x.c r1 qud hx2 h1).mono ?_
  rintro r h7 ⟨le7, rfl⟩
  have le7' := Heap.q00 le6' le7
  obtain ⟨k1, k2, k3, k4, k5⟩ := ld h7 le7'
  have eZ0 : (z3.col x.a r0).V = .agg #[.int .u64 ((z3.col x.a r0).a : Int), .int .u64 ((z3.col x.a r0).b : Int), .int .u64 ((z3.col x.a r0).c : Int)] := rfl
  have eZ1 : ((z3.col x.a r1).col x.b r0).V = .agg #[.int .u64 (((z3.col x.a r1).col x.b r0).a : Int), .int .u64 (((z3.col x.a r1).col x.b r0).b : Int), .int .u64 (((z3.col x.a r1).col x.b r0).c : Int)] := rfl
  have eZ2 : ((z3.col x.b r1).col x.c r0).V = .agg #[.int .u64 (((z3.col x.b r1).col x.c r0).a : Int), .int .u64 (((z3.col x.b r1).col x.c r0).b : Int), .int .u64 (((z3.col x.b r1).col x.c r0).c : Int)] := rfl
  have eZ3 : (z3.col x.c r1).V = .agg #[.int .u64 ((z3.col x.c r1).a : Int), .int .u64 ((z3.col x.c r1).b : Int), .int .u64 ((z3.col x.c r1).c : Int)] := rfl
  simp -implicitDefEqProofs only [zA,Nat.reduceEqDiff,Nat.reduceAdd,Nat.reduceSub,Nat.reduceLeDiff,List.drop_replicate,List.replicate_zero,List.length_replicate,eZ0,eZ1,eZ2,eZ3]
  intro b5 hb5 b6 hb6 b7 hb7
  have eL : ∀ l : List Value, l = LST (q3t x r0 r1) → h7.set b5 (.own 0 l 12) = h7.set b5 (.own 0 (LST (q3t x r0 r1)) 12) := fun l e => by rw [e]
  have eL := eL [.int .u64 ((z3.col x.a r0).a : Int), .int .u64 ((z3.col x.a r0).b : Int), .int .u64 ((z3.col x.a r0).c : Int), .int .u64 (((z3.col x.a r1).col x.b r0).a : Int), .int .u64 (((z3.col x.a r1).col x.b r0).b : Int), .int .u64 (((z3.col x.a r1).col x.b r0).c : Int), .int .u64 (((z3.col x.b r1).col x.c r0).a : Int), .int .u64 (((z3.col x.b r1).col x.c r0).b : Int), .int .u64 (((z3.col x.b r1).col x.c r0).c : Int), .int .u64 ((z3.col x.c r1).a : Int), .int .u64 ((z3.col x.c r1).b : Int), .int .u64 ((z3.col x.c r1).c : Int)] rfl
  rw [eL] at hb6 hb7 ⊢
  have ht : x.times r0 r1 = (q87 (lowF (q3t x r0 r1)) (qle (q3t x r0 r1)) 5).cut := rfl
  have hC := colsF_ok x r0 r1
  rw [ht]
  generalize q3t x r0 r1 = C at *
  have n65 := (Heap.q0b.1 hb6).1
  have hb6' := (Heap.q0b.1 hb6).2
  have n76 := (Heap.q0b.1 hb7).1
  have hb7' := (Heap.q0b.1 hb7).2
  have n75 := (Heap.q0b.1 hb7').1
  have hb7'' := (Heap.q0b.1 hb7').2
  have q47 := le7' _ _ q4
  have n45 := q06 hb5 q47
  have n46 := q06 hb6' q47
  have n47 := q06 hb7'' q47
  have hle7 := Heap.q00 leA le7'
  have hb5h := Heap.q08 hle7 hb5
  have hb6h := Heap.q08 hle7 hb6'
  have hb7h := Heap.q08 hle7 hb7''
  have le8 : h.le (((h7.set b5 (.own 0 (LST C) 12)).set b6 (.own 0 [.int .u64 0, .int .u64 0, .int .u64 0, .int .u64 0] 4)).set b7 (.own 0 [.int .u64 0, .int .u64 0, .int .u64 0] 3)) := Heap.q02 (Heap.q02 (Heap.q02 hle7 hb5h _) hb6h _) hb7h _
  have w5 : q05 (((h7.set b5 (.own 0 (LST C) 12)).set b6 (.own 0 [.int .u64 0, .int .u64 0, .int .u64 0, .int .u64 0] 4)).set b7 (.own 0 [.int .u64 0, .int .u64 0, .int .u64 0] 3)) ⟨b5, 0, none⟩ 12 = some (LST C) := by rw [qbw (Ne.symm n75), qbw (Ne.symm n65)]; exact z6x rfl
  have w6 : (((h7.set b5 (.own 0 (LST C) 12)).set b6 (.own 0 [.int .u64 0, .int .u64 0, .int .u64 0, .int .u64 0] 4)).set b7 (.own 0 [.int .u64 0, .int .u64 0, .int .u64 0] 3)) b6 = some (.own 0 (rowQ (fun j => if j < 0 then outW C j else 0) 4) 4) := by rw [Heap.q0d (Ne.symm n76), Heap.q01]; rfl
  have w7 : (((h7.set b5 (.own 0 (LST C) 12)).set b6 (.own 0 [.int .u64 0, .int .u64 0, .int .u64 0, .int .u64 0] 4)).set b7 (.own 0 [.int .u64 0, .int .u64 0, .int .u64 0] 3)) b7 = some (.own 0 (q2j C 0).cells 3) := by rw [Heap.q01]; rfl
  have w4 : (((h7.set b5 (.own 0 (LST C) 12)).set b6 (.own 0 [.int .u64 0, .int .u64 0, .int .u64 0, .int .u64 0] 4)).set b7 (.own 0 [.int .u64 0, .int .u64 0, .int .u64 0] 3)) b4 = some (.own 0 [.int .u64 0, .int .u64 0, .int .u64 0] 3) := by rw [Heap.q0d n47, Heap.q0d n46, Heap.q0d n45]; exact q47
  generalize (((h7.set b5 (.own 0 (LST C) 12)).set b6 (.own 0 [.int .u64 0, .int .u64 0, .int .u64 0, .int .u64 0] 4)).set b7 (.own 0 [.int .u64 0, .int .u64 0, .int .u64 0] 3)) = h8 at le8 w5 w6 w7 w4
  simp -implicitDefEqProofs only [zA,Nat.reduceEqDiff,w5]
  refine q0c (fun m t H => h.le H ∧ ∃ (i : Nat), t = tl [(4, .pointer (some ⟨b4, 0, none⟩)), (6, .pointer (some ⟨b6, 0, none⟩)), (7, .pointer (some ⟨b7, 0, none⟩)), (47, .agg (LST C).toArray), (48, .int .i64 i)] ∧ i ≤ 4 ∧ m = 4 - i ∧
      H b4 = some (.own 0 [.int .u64 0, .int .u64 0, .int .u64 0] 3) ∧ H b6 = some (.own 0 (rowQ (fun j => if j < i then outW C j else 0) 4) 4) ∧ H b7 = some (.own 0 (q2j C i).cells 3)) 4
    ⟨le8, 0, rfl, by omega, by omega, w4, w6, w7⟩ ?_
  clear le8 w5 w6 w7 w4 eL hb6 hb7 hb7'
  rintro m t H ⟨leH, i, rfl, hi, rfl, w4, w6, w7⟩
  by_cases hlt : i < 4
  · have hi1 : (i : Int) < 4 := by omega
    have hi2 : (0 : Int) ≤ i := by omega
    simp -implicitDefEqProofs only [zA,Nat.reduceEqDiff,Nat.reduceAdd,hi1,hi2,Int.toNat_natCast]
    intro b9 hb9
    rw [LST_at C i hlt]
    have eX : Value.agg (C i).cells.toArray = (C i).V := rfl
    rw [eX]
    have st9 : q0a (H.set b9 (.own 0 [.int .u64 0, .int .u64 0, .int .u64 0] 3)) 3 (.pointer (some ⟨b9, 0, none⟩)) (C i).V = some (H.set b9 (.own 0 (C i).cells 3)) := z6z (by omega) rfl rfl rfl (by omega)
    have n97 := q06 hb9 w7
    have n96 := q06 hb9 w6
    have n94 := q06 hb9 w4
    have v7 : q05 (H.set b9 (.own 0 (C i).cells 3)) ⟨b7, 0, none⟩ 3 = some (q2j C i).cells := by rw [qbw n97, q0l w7 (by simp [N3.cells])]; rfl
    have v9 : q05 (H.set b9 (.own 0 (C i).cells 3)) ⟨b9, 0, none⟩ 3 = some (C i).cells := z6x rfl
    have eK : Value.agg (q2j C i).cells.toArray = (q2j C i).V := rfl
    simp -implicitDefEqProofs only [zA,Nat.reduceEqDiff,st9,v7,v9,eK,eX]
    refine (qar E _ (q2j C i) (C i) (j07 C i) (hC i)).mono ?_
    rintro r h10 ⟨le10, rfl⟩
    have le9 : H.le (H.set b9 (.own 0 (C i).cells 3)) := Heap.q02 (Heap.q04 _) hb9 _
    have leHH := Heap.q00 leH (Heap.q00 le9 le10)
    have u7 := le10 _ _ (le9 _ _ w7)
    have u6 := le10 _ _ (le9 _ _ w6)
    have u4 := le10 _ _ (le9 _ _ w4)
    have hout : outW C i = ((q2j C i).plus (C i)).a := rfl
    have hcar : q2j C (i + 1) = ⟨((q2j C i).plus (C i)).b, ((q2j C i).plus (C i)).c, 0⟩ := rfl
    have hstep := qyt (outW C) i 4
    rw [hout] at hstep
    generalize (q2j C i).plus (C i) = P at *
    have sA := qit P u7 rfl
    have lA : q0x (h10.set b7 (.own 0 P.cells 3)) ⟨b7, 0, none⟩ = some (.int .u64 (P.a : Int)) := z6w (by simp [N3.cells])
    have sB := qx3 (H := h10.set b7 (.own 0 P.cells 3)) (z := P.a) (by rw [Heap.q0d (Ne.symm n76)]; exact u6) hlt
    rw [hstep] at sB
    have lB1 : q0x ((h10.set b7 (.own 0 P.cells 3)).set b6 (.own 0 (rowQ (fun k => if k < i + 1 then outW C k else 0) 4) 4)) ⟨b7, 1, none⟩ = some (.int .u64 (P.b : Int)) := by rw [qe2 n76]; exact z6w (by simp [N3.cells])
    have lB2 : q0x ((h10.set b7 (.own 0 P.cells 3)).set b6 (.own 0 (rowQ (fun k => if k < i + 1 then outW C k else 0) 4) 4)) ⟨b7, 2, none⟩ = some (.int .u64 (P.c : Int)) := by rw [qe2 n76]; exact z6w (by simp [N3.cells])
    have sC := qit (H := (h10.set b7 (.own 0 P.cells 3)).set b6 (.own 0 (rowQ (fun k => if k < i + 1 then outW C k else 0) 4) 4)) (b := b7) (old := P.cells) (⟨P.b, P.c, 0⟩ : N3) (by rw [Heap.q0d n76, Heap.q01]) rfl
    have eP : (⟨P.b, P.c, 0⟩ : N3).V = .agg #[.int .u64 (P.b : Int), .int .u64 (P.c : Int), .int .u64 0] := rfl
    rw [eP] at sC
    have w1 : IntKind.i64.wrap ((i : Int) + 1) = ((i + 1 : Nat) : Int) := q2k (by omega)
    simp -implicitDefEqProofs only [zA,Nat.reduceEqDiff,Nat.reduceAdd,Int.reduceLT,Int.reduceLE,Int.reduceToNat,Nat.reduceLeDiff,sA,lA,hi1,hi2,Int.toNat_natCast,sB,lB1,lB2,sC,w1]
    refine ⟨4 - (i + 1), by omega, Heap.q02 (Heap.q02 (Heap.q02 leHH hb7h _) hb6h _) hb7h _, i + 1, rfl, by omega, rfl, ?_, ?_, ?_⟩
    · rw [Heap.q0d n47, Heap.q0d n46, Heap.q0d n47]; exact u4
    · rw [Heap.q0d (Ne.symm n76), Heap.q01]
    · rw [Heap.q01, hcar]
  · have hi1 : ¬ (i : Int) < 4 := by omega
    have : i = 4 := by omega
    subst this
    have o0 := qrt w6 (show 0 < 4 by omega)
    have o1 := qrt w6 (show 1 < 4 by omega)
    have o2 := qrt w6 (show 2 < 4 by omega)
    have o3 := qrt w6 (show 3 < 4 by omega)
    simp only [Nat.reduceLT, if_true] at o0 o1 o2 o3
    simp -implicitDefEqProofs only [zA,Nat.reduceEqDiff,Nat.reduceAdd,Nat.reduceSub,Int.reduceLT,Int.reduceLE,Int.reduceToNat,Nat.reduceLeDiff,o0,o1,o2,and_3]
    intro bA hbA
    have nA6 := q06 hbA w6
    have nA4 := q06 hbA w4
    have p2 : q0x (H.set bA (.own 0 (lowF C).cells 3)) ⟨b6, 2, none⟩ = some (.int .u64 ((outW C 2 : Nat) : Int)) := by rw [qe2 nA6]; exact o2
    have p3 : q0x (H.set bA (.own 0 (lowF C).cells 3)) ⟨b6, 3, none⟩ = some (.int .u64 ((outW C 3 : Nat) : Int)) := by rw [qe2 nA6]; exact o3
    have eLow : [Value.int .u64 ((outW C 0 : Nat) : Int), .int .u64 ((outW C 1 : Nat) : Int), .int .u64 ((outW C 2 % 4 : Nat) : Int)] = (lowF C).cells := rfl
    rw [eLow]
    have ok2 : outW C 2 < 18446744073709551616 := (N3.qac (q2j C 2) (C 2)).1
    have orh := or_hi (outW C 2 / 4) (outW C 3 % 4) (by omega) (by omega)
    simp -implicitDefEqProofs only [zA,Nat.reduceEqDiff,Nat.reduceAdd,Int.reduceLT,Int.reduceLE,Int.reduceToNat,Nat.reduceLeDiff,p2,p3,shr_2',shl_62',orh]
    intro bB hbB
    have eHigh : [Value.int .u64 ((outW C 2 / 4 + outW C 3 % 4 * 4611686018427387904 : Nat) : Int), .int .u64 ((outW C 3 / 4 : Nat) : Int), .int .u64 0] = (qle C).cells := rfl
    have nBA := (Heap.q0b.1 hbB).1
    have hbB' := (Heap.q0b.1 hbB).2
    rw [eHigh]
    have hlo := qzn C
    have hhi := highF_ok C
    generalize lowF C = X at *
    generalize qle C = Y at *
    have hbAh := Heap.q08 leH hbA
    have hbBh := Heap.q08 leH hbB'
    have nB4 := q06 hbB' w4
    have le9 : h.le ((H.set bA (.own 0 X.cells 3)).set bB (.own 0 Y.cells 3)) := Heap.q02 (Heap.q02 leH hbAh _) hbBh _
    have uA : ((H.set bA (.own 0 X.cells 3)).set bB (.own 0 Y.cells 3)) bA = some (.own 0 (q87 X Y 0).cells 3) := by rw [Heap.q0d (Ne.symm nBA), Heap.q01]; rfl
    have uB : ((H.set bA (.own 0 X.cells 3)).set bB (.own 0 Y.cells 3)) bB = some (.own 0 Y.cells 3) := Heap.q01 _ _ _
    have u4 : ((H.set bA (.own 0 X.cells 3)).set bB (.own 0 Y.cells 3)) b4 = some (.own 0 [.int .u64 0, .int .u64 0, .int .u64 0] 3) := by rw [Heap.q0d nB4, Heap.q0d nA4]; exact w4
    generalize ((H.set bA (.own 0 X.cells 3)).set bB (.own 0 Y.cells 3)) = H9 at le9 uA uB u4
    refine q0c (fun m t H => h.le H ∧ ∃ (i : Nat), t = tl [(4, .pointer (some ⟨b4, 0, none⟩)), (10, .pointer (some ⟨bA, 0, none⟩)), (11, .pointer (some ⟨bB, 0, none⟩)), (84, .int .i64 i)] ∧ i ≤ 5 ∧ m = 5 - i ∧
        H b4 = some (.own 0 [.int .u64 0, .int .u64 0, .int .u64 0] 3) ∧ H bA = some (.own 0 (q87 X Y i).cells 3) ∧ H bB = some (.own 0 Y.cells 3)) 5
      ⟨le9, 0, rfl, by omega, by omega, u4, uA, uB⟩ ?_
    clear le9 uA uB u4
    rintro m t H' ⟨leH', i, rfl, hi, rfl, u4, uA, uB⟩
    have lA : q05 H' ⟨bA, 0, none⟩ 3 = some (q87 X Y i).cells := by rw [q0l uA (by simp [N3.cells])]; rfl
    have lB : q05 H' ⟨bB, 0, none⟩ 3 = some Y.cells := by rw [q0l uB (by simp [N3.cells])]; rfl
    have eA : Value.agg (q87 X Y i).cells.toArray = (q87 X Y i).V := rfl
    have eB : Value.agg Y.cells.toArray = Y.V := rfl
    have oki := qws (x := X) (y := Y) hlo i
    by_cases hlt : i < 5
    · have hi1 : (i : Int) < 5 := by omega
      have w1 : IntKind.i64.wrap ((i : Int) + 1) = ((i + 1 : Nat) : Int) := q2k (by omega)
      simp -implicitDefEqProofs only [zA,Nat.reduceEqDiff,hi1,lA,lB,eA,eB]
      refine (qar E H' (q87 X Y i) Y oki hhi).mono ?_
      rintro r h11 ⟨le11, rfl⟩
      have st := qit ((q87 X Y i).plus Y) (le11 _ _ uA) rfl
      simp -implicitDefEqProofs only [zA,Nat.reduceEqDiff,st,w1]
      refine ⟨5 - (i + 1), by omega, Heap.q02 (Heap.q00 leH' le11) hbAh _, i + 1, rfl, by omega, rfl, ?_, Heap.q01 _ _ _, ?_⟩
      · rw [Heap.q0d nA4]; exact le11 _ _ u4
      · rw [Heap.q0d nBA]; exact le11 _ _ uB
    · have hi1 : ¬ (i : Int) < 5 := by omega
      have : i = 5 := by omega
      subst this
      simp -implicitDefEqProofs only [zA,Nat.reduceEqDiff,Nat.reduceSub,Int.reduceLT,lA,eA]
      refine (qp3 E H' (q87 X Y 5) oki).mono ?_
      rintro r h11 ⟨le11, rfl⟩
      have st := qit (q87 X Y 5).cut (le11 _ _ u4) rfl
      have hl := z6x (h := h11) (b := b4) (vs := (q87 X Y 5).cut.cells) (sz := 3) (n := 3) rfl
      simp -implicitDefEqProofs only [zA,Nat.reduceEqDiff,st,hl]
      exact ⟨Heap.q02 (Heap.q00 leH' le11) hb4'' _, rfl⟩
theorem qtc (E : EnvT tab) (h : Heap) {v : Value} (l : List UInt8) (hl : l.length ≤ 140737488355328) (s : SlB h v l) : ACallN E.toEnv qtk [v] h fun r h' => h.le h' ∧ OwB h h' r l.reverse := by
  refine q0o qhf qck rfl rfl (q03 ?_)
  unfold qck
  simp -implicitDefEqProofs only [zA,reduceCtorEq]
  refine (qpx E h l hl s).mono ?_
  rintro r h1 ⟨le1, ow⟩
  simp -implicitDefEqProofs only [zA,reduceCtorEq,Nat.reduceEqDiff]
  refine (j0h E le1 l hl ow).mono ?_
  rintro r2 h2 ⟨le2, ow2⟩
  simp -implicitDefEqProofs only [zA,Nat.reduceEqDiff]
  exact ⟨le2, ow2⟩
def q0h (l : List UInt8) : U64 := qe3 l.reverse
theorem qdi (E : EnvT tab) (h : Heap) {v : Value} (l : List UInt8) (hl : l.length ≤ 8) (s : SlB h v l) : ACallN E.toEnv qkt [v] h fun r h' => h.le h' ∧ r = .tuple #[u64V (q0h l), .int .i64 0] := by
  refine q0o q9y q4s rfl rfl (q03 ?_)
  unfold q4s
  simp -implicitDefEqProofs only [zA,reduceCtorEq]
  refine (qtc E h l (by omega) s).mono ?_
  rintro r h1 ⟨le1, ow⟩
  simp -implicitDefEqProofs only [zA,reduceCtorEq,Nat.reduceEqDiff]
  refine (qp1 E h1 l.reverse (by simpa using hl) ow.sl).mono ?_
  rintro r2 h2 ⟨rfl, rfl⟩
  simp -implicitDefEqProofs only [zA,reduceCtorEq,Nat.reduceEqDiff]
  exact ⟨le1, rfl⟩
theorem qaq (E : EnvT tab) (h : Heap) {v : Value} (l : List UInt8) (hl : l.length ≤ 8) (s : SlB h v l) : ACallN E.toEnv qv3 [v] h fun r h' => h.le h' ∧ r = u64V (q0h l) := by
  refine q0o qjw qdq rfl rfl (q03 ?_)
  unfold qdq
  simp -implicitDefEqProofs only [zA,reduceCtorEq]
  refine (qdi E h l hl s).mono ?_
  rintro r h1 ⟨le1, rfl⟩
  simp -implicitDefEqProofs only [zA,reduceCtorEq,Nat.reduceEqDiff]
  exact le1
theorem u8_and (b c : UInt8) : IntKind.u8.wrap ((BitVec.ofInt IntKind.u8.bits (b.toNat : Int) &&& BitVec.ofInt IntKind.u8.bits (c.toNat : Int)).toNat : Int) = ((b &&& c).toNat : Int) := by
  rw [show IntKind.u8.bits = 8 from rfl, qob]
  simp only [q1d]
  congr 1
  simp [UInt8.toNat_and, Nat.mod_eq_of_lt b.toNat_lt, Nat.mod_eq_of_lt c.toNat_lt]
theorem u8_a15 (b : UInt8) : IntKind.u8.wrap ((BitVec.ofInt IntKind.u8.bits (b.toNat : Int) &&& BitVec.ofInt IntKind.u8.bits 15).toNat : Int) = ((b &&& 15).toNat : Int) := u8_and b 15
theorem qy3 (b : UInt8) : IntKind.u8.wrap ((BitVec.ofInt IntKind.u8.bits (b.toNat : Int) &&& BitVec.ofInt IntKind.u8.bits 252).toNat : Int) = ((b &&& 252).toNat : Int) := u8_and b 252
def ixA (i : Nat) : Nat := 4 * i + 3
def ixB (i : Nat) : Nat := 4 * i + 4
def clA (f : Nat → UInt8) (i k : Nat) : UInt8 := if k % 4 = 3 ∧ k < 4 * i + 3 then f k &&& 15 else f k
def clB (f : Nat → UInt8) (i k : Nat) : UInt8 := if k % 4 = 0 ∧ 0 < k ∧ k < 4 * i + 4 then f k &&& 252 else f k
theorem qwk (f : Nat → UInt8) (i : Nat) : row8 (fun k => if k = ixA i then clA f i (ixA i) &&& 15 else clA f i k) 16 = row8 (clA f (i + 1)) 16 := by
  apply q1s
  intro k _
  unfold clA ixA
  by_cases e : k = 4 * i + 3
  · subst e; rw [if_pos rfl, if_neg (by omega), if_pos (by omega)]
  · rw [if_neg e]
    by_cases c : k % 4 = 3 ∧ k < 4 * i + 3
    · rw [if_pos c, if_pos (by omega)]
    · rw [if_neg c, if_neg (by omega)]
theorem qwj (f : Nat → UInt8) (i : Nat) : row8 (fun k => if k = ixB i then clB f i (ixB i) &&& 252 else clB f i k) 16 = row8 (clB f (i + 1)) 16 := by
  apply q1s
  intro k _
  unfold clB ixB
  by_cases e : k = 4 * i + 4
  · subst e; rw [if_pos rfl, if_neg (by omega), if_pos (by omega)]
  · rw [if_neg e]
    by_cases c : k % 4 = 0 ∧ 0 < k ∧ k < 4 * i + 4
    · rw [if_pos c, if_pos (by omega)]
    · rw [if_neg c, if_neg (by omega)]
def qez (f : Nat → UInt8) : Nat → UInt8 := clB (clA f 4) 3
theorem qt5 (E : EnvT tab) (h : Heap) (f : Nat → UInt8) : ACallN E.toEnv qti [.agg (row8 f 16).toArray] h fun r h' => h.le h' ∧ r = .agg (row8 (qez f) 16).toArray := by
  refine q0o qhd qci rfl rfl (q03 ?_)
  unfold qci
  simp -implicitDefEqProofs only [zA,reduceCtorEq,Nat.reduceEqDiff,Nat.reduceAdd,Nat.reduceLeDiff]
  rw [q0m]
  intro b1 hb1 b2 hb2
  try simp -implicitDefEqProofs only [zA,reduceIte,reduceCtorEq,Nat.reduceEqDiff,Nat.reduceAdd,Nat.reduceMul,Nat.reduceLT,Nat.reduceSub,Int.reduceLT,Int.reduceLE,Int.reduceEq,Int.reduceNe,Int.reduceSub,Int.reduceAdd,Int.reduceMul,Int.reduceBEq,Int.reduceBNe,Int.reduceGT,Int.reduceGE,Nat.reduceGT,Int.reduceToNat,Int.reduceNeg,Nat.reduceLeDiff,Nat.reduceBEq,Nat.reduceBneDiff]
  rw [List.length_replicate]
  have n21 := (Heap.q0b.1 hb2).1
  have hb2' := (Heap.q0b.1 hb2).2
  have le0 : h.le ((h.set b1 (.own 0 (row8 f 16) 16)).set b2 (.own 0 (List.replicate 16 (.int .u8 0)) 16)) := Heap.q02 (Heap.q02 (Heap.q04 _) hb1 _) hb2' _
  have q1 : ((h.set b1 (.own 0 (row8 f 16) 16)).set b2 (.own 0 (List.replicate 16 (.int .u8 0)) 16)) b1 = some (.own 0 (row8 (clA f 0) 16) 16) := by
    rw [Heap.q0d (Ne.symm n21), Heap.q01]
    rw [show row8 f 16 = row8 (clA f 0) 16 from q1s fun k _ => by unfold clA; rw [if_neg (by omega)]]
  have q2 : ((h.set b1 (.own 0 (row8 f 16) 16)).set b2 (.own 0 (List.replicate 16 (.int .u8 0)) 16)) b2 = some (.own 0 (List.replicate 16 (.int .u8 0)) 16) := Heap.q01 _ _ _
  simp -implicitDefEqProofs only [zA,Nat.reduceEqDiff,Nat.reduceAdd,Nat.reduceSub,Nat.reduceLeDiff,List.length_replicate,List.drop_replicate,List.replicate_zero]
  intro b7 hb7
  try simp -implicitDefEqProofs only [zA,reduceIte,reduceCtorEq,Nat.reduceEqDiff,Nat.reduceAdd,Nat.reduceMul,Nat.reduceLT,Nat.reduceSub,Int.reduceLT,Int.reduceLE,Int.reduceEq,Int.reduceNe,Int.reduceSub,Int.reduceAdd,Int.reduceMul,Int.reduceBEq,Int.reduceBNe,Int.reduceGT,Int.reduceGE,Nat.reduceGT,Int.reduceToNat,Int.reduceNeg,Nat.reduceLeDiff,Nat.reduceBEq,Nat.reduceBneDiff]
  generalize ((h.set b1 (.own 0 (row8 f 16) 16)).set b2 (.own 0 (List.replicate 16 (.int .u8 0)) 16)) = h1 at le0 q1 q2 hb7 ⊢
  have hb1h := hb1
  have n71 := q06 hb7 q1
  have n72 := q06 hb7 q2
  refine q0c (fun m t H => h.le H ∧ ∃ (i : Nat), t = tl [(1, .pointer (some ⟨b1, 0, none⟩)), (2, .pointer (some ⟨b2, 0, none⟩)), (7, .slice (some ⟨b7, 0, none⟩) 4 4), (8, .int .i64 4), (9, .int .i64 i)] ∧ i ≤ 4 ∧ m = 4 - i ∧
      H b1 = some (.own 0 (row8 (clA f i) 16) 16) ∧ H b2 = some (.own 0 (List.replicate 16 (.int .u8 0)) 16) ∧ H b7 = some (.own 0 [.int .i64 3, .int .i64 7, .int .i64 11, .int .i64 15] 4)) 4
    ⟨Heap.q1c le0 hb7 _, 0, rfl, by omega, by omega, by rw [Heap.q0d n71]; exact q1, by rw [Heap.q0d n72]; exact q2, Heap.q01 _ _ _⟩ ?_
  rintro m t H ⟨leH, i, rfl, hi, rfl, q1, q2, q7⟩
  by_cases hlt : i < 4
  · have hi1 : (i : Int) < 4 := by omega
    have hi2 : (0 : Int) ≤ i := by omega
    have w1 : IntKind.i64.wrap ((i : Int) + 1) = ((i + 1 : Nat) : Int) := q2k (by omega)
    have c7 : q0x H ⟨b7, i, none⟩ = some (.int .i64 ((ixA i : Nat) : Int)) := by
      rw [q0k q7 (by simpa using hlt)]
      match i, hlt with
      | 0, _ => rfl
      | 1, _ => rfl
      | 2, _ => rfl
      | 3, _ => rfl
    have x1 : ixA i < 16 := by unfold ixA; omega
    have x2 : ((ixA i : Nat) : Int) < 16 := by omega
    have x3 : (0 : Int) ≤ ((ixA i : Nat) : Int) := by omega
    have c1 := qoq q1 x1
    have s1 := qen (z := clA f i (ixA i) &&& 15) q1 x1
    rw [qwk] at s1
    simp -implicitDefEqProofs only [zA,Nat.reduceEqDiff,hi1,hi2,Int.toNat_natCast,c7,x2,x3,c1,u8_a15,s1,w1]
    exact ⟨_, by omega, Heap.q02 leH hb1h _, i + 1, rfl, by omega, rfl, Heap.q01 _ _ _, by rw [Heap.q0d n21]; exact q2, by rw [Heap.q0d (Ne.symm n71)]; exact q7⟩
  · have hi1 : ¬ (i : Int) < 4 := by omega
    have : i = 4 := by omega
    subst this
    rw [show row8 (clA f 4) 16 = row8 (clB (clA f 4) 0) 16 from q1s fun k _ => by (conv => rhs; unfold clB); rw [if_neg (by omega)]] at q1
    generalize hg : clA f 4 = g at q1
    have hcl : qez f = clB g 3 := by unfold qez; rw [hg]
    rw [hcl]
    simp -implicitDefEqProofs only [zA,Nat.reduceEqDiff,Nat.reduceAdd,Nat.reduceSub,Int.reduceLT,Nat.reduceLeDiff,List.length_replicate,List.drop_replicate,List.replicate_zero]
    intro b9 hb9
    try simp -implicitDefEqProofs only [zA,reduceIte,reduceCtorEq,Nat.reduceEqDiff,Nat.reduceAdd,Nat.reduceMul,Nat.reduceLT,Nat.reduceSub,Int.reduceLT,Int.reduceLE,Int.reduceEq,Int.reduceNe,Int.reduceSub,Int.reduceAdd,Int.reduceMul,Int.reduceBEq,Int.reduceBNe,Int.reduceGT,Int.reduceGE,Nat.reduceGT,Int.reduceToNat,Int.reduceNeg,Nat.reduceLeDiff,Nat.reduceBEq,Nat.reduceBneDiff]
    have n91 := q06 hb9 q1
    have n92 := q06 hb9 q2
    refine q0c (fun m t H => h.le H ∧ ∃ (i : Nat), t = tl [(1, .pointer (some ⟨b1, 0, none⟩)), (2, .pointer (some ⟨b2, 0, none⟩)), (19, .slice (some ⟨b9, 0, none⟩) 3 3), (20, .int .i64 3), (21, .int .i64 i)] ∧ i ≤ 3 ∧ m = 3 - i ∧
        H b1 = some (.own 0 (row8 (clB g i) 16) 16) ∧ H b2 = some (.own 0 (List.replicate 16 (.int .u8 0)) 16) ∧ H b9 = some (.own 0 [.int .i64 4, .int .i64 8, .int .i64 12] 3)) 3
      ⟨Heap.q1c leH hb9 _, 0, rfl, by omega, by omega, by rw [Heap.q0d n91]; exact q1, by rw [Heap.q0d n92]; exact q2, Heap.q01 _ _ _⟩ ?_
    clear q1 q2 q7
    rintro m t H ⟨leH, i, rfl, hi, rfl, q1, q2, q7⟩
    by_cases hlt : i < 3
    · have hi1 : (i : Int) < 3 := by omega
      have hi2 : (0 : Int) ≤ i := by omega
      have w1 : IntKind.i64.wrap ((i : Int) + 1) = ((i + 1 : Nat) : Int) := q2k (by omega)
      have c7 : q0x H ⟨b9, i, none⟩ = some (.int .i64 ((ixB i : Nat) : Int)) := by
        rw [q0k q7 (by simpa using hlt)]
        match i, hlt with
        | 0, _ => rfl
        | 1, _ => rfl
        | 2, _ => rfl
      have x1 : ixB i < 16 := by unfold ixB; omega
      have x2 : ((ixB i : Nat) : Int) < 16 := by omega
      have x3 : (0 : Int) ≤ ((ixB i : Nat) : Int) := by omega
      have c1 := qoq q1 x1
      have s1 := qen (z := clB g i (ixB i) &&& 252) q1 x1
      rw [qwj] at s1
      simp -implicitDefEqProofs only [zA,Nat.reduceEqDiff,hi1,hi2,Int.toNat_natCast,c7,x2,x3,c1,qy3,s1,w1]
      exact ⟨_, by omega, Heap.q02 leH hb1h _, i + 1, rfl, by omega, rfl, Heap.q01 _ _ _, by rw [Heap.q0d n21]; exact q2, by rw [Heap.q0d (Ne.symm n91)]; exact q7⟩
    · have hi1 : ¬ (i : Int) < 3 := by omega
      have : i = 3 := by omega
      subst this
      have hl : q05 H ⟨b1, 0, none⟩ 16 = some (row8 (clB g 3) 16) := by rw [q0l q1 (by rw [q0m]; omega)]; simp [List.take_of_length_le, q0m]
      have st : q0a H 16 (.pointer (some ⟨b2, 0, none⟩)) (.agg (row8 (clB g 3) 16).toArray) = some (H.set b2 (.own 0 (row8 (clB g 3) 16) 16)) := q0f q2 (by omega) (q0m _ _) (by simp [row8, one]) (by simp) (by omega)
      have hl2 : q05 (H.set b2 (.own 0 (row8 (clB g 3) 16) 16)) ⟨b2, 0, none⟩ 16 = some (row8 (clB g 3) 16) := z6x (q0m _ _)
      simp -implicitDefEqProofs only [zA,Nat.reduceEqDiff,Nat.reduceSub,Int.reduceLT,hl,st,hl2]
      exact Heap.q02 leH hb2' _
theorem Ow.head {h0 h : Heap} {size n c : Nat} {base : Option Addr} {cells : List Value} (s : Ow h0 h size (.slice base n c) n cells) {k : Nat} (hk : k ≤ n) : Ow h0 h size (.slice base k c) k (cells.take (k * size)) := by
  have hm : k * size ≤ n * size := Nat.mul_le_mul_right _ hk
  rcases s with ⟨e, rfl, rfl⟩ | ⟨b, o, c', sz, st, pre, rest, e, hc, hn, hb, ho, hl, hz⟩
  · simp only [Value.slice.injEq] at e
    obtain ⟨rfl, _, rfl⟩ := e
    have : k = 0 := by omega
    subst this
    exact .inl ⟨rfl, rfl, by simp⟩
  · simp only [Value.slice.injEq] at e
    obtain ⟨rfl, _, rfl⟩ := e
    refine .inr ⟨b, o, c, sz, st, pre, cells.drop (k * size) ++ rest, rfl, by omega, hn, ?_, ho, by rw [List.length_take]; omega, hz⟩
    rw [hb, List.append_assoc pre, List.append_assoc pre, ← List.append_assoc (cells.take _), List.take_append_drop]
theorem qpq {size bytes n m : Nat} {z : List Value} {h0 h : Heap} {v : Value} {cells : List Value} {k : IntKind} {K : Value → Heap → Prop} (hle : h0.le h) (hsz : 0 < size) (s : Ow h0 h size v n cells) (hz : z.length = size) (h1 : z.all one = true)
    (hb : (n + m) * bytes ≤ 140737488355328) (hm : n + m ≤ 9223372036854775807)
    (hk : ∀ v h', Ow h0 h' size v (n + m) (cells ++ (List.replicate m z).flatten) → h0.le h' → K v h') : qls size bytes z h v (.int k (m : Int)) K := by
  obtain ⟨base, c, rfl⟩ : ∃ base c, v = .slice base n c := by
    rcases s with ⟨rfl, rfl, _⟩ | ⟨b, o, c, sz, _, _, _, rfl, _⟩
    · exact ⟨_, _, rfl⟩
    · exact ⟨_, _, rfl⟩
  simp only [qls, Int.toNat_natCast]
  have hmb : m * bytes ≤ (n + m) * bytes := Nat.mul_le_mul_right _ (by omega)
  refine ⟨by omega, by omega, ?_, qu9 hle hsz s (by simp [hz]) (fun u hu => ?_) hb hm hk⟩
  · rw [← Int.natCast_mul]; omega
  · obtain ⟨l, hl, hu⟩ := List.mem_flatten.1 hu
    rw [List.eq_of_mem_replicate hl] at hu
    exact List.all_eq_true.1 h1 u hu
theorem Grow_c (E : EnvT tab) (h : Heap) (n : Nat) (hn : n ≤ 100000000) : ACallN E.toEnv qfa [.slice none 0 0, .int .i64 n] h fun r h' => h.le h' ∧ OwB h h' r [] := by
  refine q0o q57 q2c rfl rfl (q03 ?_)
  unfold q2c
  have n0 : ¬ (n : Int) < 0 := by omega
  have w0 : IntKind.i64.wrap 0 = 0 := by decide
  have w1 : IntKind.i64.wrap ((n : Int) - 0) = (n : Int) := by rw [q0w (by omega) (by omega)]; omega
  by_cases hz : n = 0
  · subst hz
    simp -implicitDefEqProofs only [zA,reduceCtorEq,Nat.reduceEqDiff,Nat.reduceAdd,Int.reduceLT,Int.reduceSub,w0]
    exact ⟨Heap.q04 _, Ow.nil _ _ _⟩
  · have g0 : (0 : Int) < n := by omega
    have bd : bnds 0 0 none (some (some (.int .i64 0))) none = some (0, 0, 0) := by decide
    simp -implicitDefEqProofs only [zA,reduceCtorEq,Nat.reduceEqDiff,Nat.reduceAdd,Nat.reduceSub,Int.reduceSub,n0,w0,w1,g0,bd]
    refine qpq (n := 0) (m := n) (cells := []) (Heap.q04 _) (by omega) (Ow.nil _ _ _) rfl rfl (by omega) (by omega) ?_
    intro v1 h1 ow1 le1
    rw [Nat.zero_add, List.nil_append] at ow1
    obtain ⟨b1, c1, rfl⟩ := Sl.shape ow1.sl
    have bd2 : bnds n c1 none (some (some (.int .i64 0))) none = some (0, 0, c1) := q5t (by omega) (by omega)
    simp -implicitDefEqProofs only [zA,reduceCtorEq,Nat.reduceEqDiff,Nat.reduceSub,bd2]
    rw [addO b1 c1 (fun a _ => qf1 a), Nat.sub_zero]
    have := ow1.head (k := 0) (by omega)
    rw [Nat.zero_mul, List.take_zero] at this
    exact ⟨le1, this⟩
theorem qlf {L : List (List UInt8)} (i : Nat) : (L.take i).flatten.length ≤ L.flatten.length := by
  have : L.flatten = (L.take i).flatten ++ (L.drop i).flatten := by rw [← List.flatten_append, List.take_append_drop]
  rw [this, List.length_append]; omega
theorem Concat_c (E : EnvT tab) (h : Heap) {v : Value} (L : List (List UInt8)) (hl : L.length ≤ 100000) (ht : L.flatten.length ≤ 100000000) (s : SlL h v L) :
    ACallN E.toEnv qe7 [v] h fun r h' => h.le h' ∧ OwB h h' r L.flatten := by
  obtain ⟨vs, hvs, sl, el⟩ := s
  obtain ⟨base, c, rfl⟩ := Sl.shape sl
  refine q0o q3q q1u rfl rfl (q03 ?_)
  unfold q1u
  simp -implicitDefEqProofs only [zA,reduceCtorEq,Nat.reduceEqDiff]
  have part : ∀ i (hi : i < L.length) H, h.le H → ∃ b o, base = some ⟨b, o, none⟩ ∧ q0x H ⟨b, o + i, none⟩ = some (vs[i]'(by omega)) ∧ ∃ bi ci, vs[i]'(by omega) = .slice bi L[i].length ci := by
    intro i hi H hH
    obtain ⟨b, o, c', hv, hc, hcl⟩ := sl.ptr (by omega) (by omega)
    simp only [Value.slice.injEq, true_and] at hv
    obtain ⟨rfl, rfl⟩ := hv
    rw [Nat.mul_one] at hcl
    refine ⟨b, o, rfl, ?_, Sl.shape (el i (by omega) hi)⟩
    rw [qi9 (q22 hH hcl) i hi]; simp [hvs, hi]
  have step : ∀ i (hi : i < L.length), (L.take (i + 1)).flatten = (L.take i).flatten ++ L[i] := fun i hi => by rw [List.take_succ_eq_append_getElem hi, List.flatten_append]; simp
  refine q0c (fun m t H => H = h ∧ ∃ (i : Nat), t = tl [(0, .slice base L.length c), (3, .int .i64 ((L.take i).flatten.length : Nat)), (9, .slice base L.length c), (10, .int .i64 L.length), (11, .int .i64 i)] ∧ i ≤ L.length ∧ m = L.length - i) L.length
    ⟨rfl, 0, rfl, by omega, by omega⟩ ?_
  rintro m t H ⟨rfl, i, rfl, hi, rfl⟩
  by_cases hlt : i < L.length
  · have hi1 : (i : Int) < L.length := by omega
    have hi2 : (0 : Int) ≤ i := by omega
    have w1 : IntKind.i64.wrap ((i : Int) + 1) = ((i + 1 : Nat) : Int) := q2k (by omega)
    obtain ⟨b, o, rfl, ci, bi, cci, ei⟩ := part i hlt H (Heap.q04 _)
    have hf := qlf (L := L) (i + 1)
    have hs := step i hlt
    rw [hs, List.length_append] at hf
    have w2 : IntKind.i64.wrap ((((L.take i).flatten.length : Nat) : Int) + ((L[i].length : Nat) : Int)) = (((L.take (i + 1)).flatten.length : Nat) : Int) := by rw [hs, List.length_append, q0w (by omega) (by omega)]; omega
    have n2 : ¬ (((L.take (i + 1)).flatten.length : Nat) : Int) < 0 := by omega
    generalize hF : (L.take i).flatten.length = F at *
    generalize hF2 : (L.take (i + 1)).flatten.length = F2 at *
    rw [ei] at ci
    simp -implicitDefEqProofs only [zA,reduceCtorEq,Nat.reduceEqDiff,hi1,hi2,Int.toNat_natCast,ci,w2,n2,w1]
    exact ⟨_, by omega, i + 1, by rw [hF2], by omega, rfl⟩
  · have hi1 : ¬ (i : Int) < L.length := by omega
    have : i = L.length := by omega
    subst this
    rw [List.take_length]
    generalize hFF : L.flatten.length = FF at *
    simp -implicitDefEqProofs only [zA,reduceCtorEq,Nat.reduceEqDiff,hi1]
    refine (Grow_c E H FF (by omega)).mono ?_
    rintro r h1 ⟨le1, ow1⟩
    simp -implicitDefEqProofs only [zA,reduceCtorEq,Nat.reduceEqDiff]
    refine q0c (fun m t H' => H.le H' ∧ ∃ (i : Nat) (v6 : Value), t = tl [(6, v6), (25, .slice base L.length c), (26, .int .i64 L.length), (27, .int .i64 i)] ∧ i ≤ L.length ∧ m = L.length - i ∧ OwB H H' v6 (L.take i).flatten) L.length
      ⟨le1, 0, r, rfl, by omega, by omega, by rw [List.take_zero]; exact ow1⟩ ?_
    rintro m t H' ⟨leH, i, v6, rfl, hi, rfl, ow⟩
    by_cases hlt : i < L.length
    · have hi1 : (i : Int) < L.length := by omega
      have hi2 : (0 : Int) ≤ i := by omega
      have w1 : IntKind.i64.wrap ((i : Int) + 1) = ((i + 1 : Nat) : Int) := q2k (by omega)
      obtain ⟨b, o, rfl, ci, bi, cci, ei⟩ := part i hlt H' leH
      have si := (el i (by omega) hlt).le leH
      have hf := qlf (L := L) (i + 1)
      have hs := step i hlt
      rw [hs, List.length_append] at hf
      simp -implicitDefEqProofs only [zA,Nat.reduceEqDiff,hi1,hi2,Int.toNat_natCast,ci]
      refine q0t (bytes := 1) (m := L[i].length) (news := L[i].map u8V) leH (by omega) ow si (q1i _) (by omega) (by omega) ?_
      intro v7 h7 ow7 le7
      simp -implicitDefEqProofs only [zA,Nat.reduceEqDiff,w1]
      refine ⟨L.length - (i + 1), by omega, le7, i + 1, v7, rfl, by omega, rfl, ?_⟩
      rw [hs]
      unfold OwB
      rw [List.length_append, List.map_append]
      exact ow7
    · have hi1 : ¬ (i : Int) < L.length := by omega
      have : i = L.length := by omega
      subst this
      rw [List.take_length] at ow
      simp -implicitDefEqProofs only [zA,Nat.reduceEqDiff,hi1]
      exact ⟨leH, ow⟩
def qd4 (l : List UInt8) : List UInt8 := l.take 16 ++ [1] ++ List.replicate (32 - (l.take 16).length) 0
def qpn (l : List UInt8) : N3 := ⟨(q0h ((qd4 l).take 8)).toNat, (q0h (((qd4 l).drop 8).take 8)).toNat, ((qd4 l).getD 16 0).toNat⟩
def qek (k0 k1 : Nat) (s : N3) (l : List UInt8) : N3 :=
  if h : 0 < l.length then qek k0 k1 ((s.plus (qpn l)).times k0 k1) (l.drop 16) else s
termination_by l.length
decreasing_by simp; omega
theorem qoj {k0 k1 : Nat} {s : N3} {l : List UInt8} (h : 0 < l.length) : qek k0 k1 s l = qek k0 k1 ((s.plus (qpn l)).times k0 k1) (l.drop 16) := by
  rw [qek, dif_pos h]
theorem qj5 {k0 k1 : Nat} {s : N3} {l : List UInt8} (h : ¬ 0 < l.length) : qek k0 k1 s l = s := by
  rw [qek, dif_neg h]
def rowL (f : Nat → UInt8) (n : Nat) : List UInt8 := (List.range n).map f
theorem q3c (f : Nat → UInt8) (n : Nat) : (rowL f n).length = n := by simp [rowL]
theorem qdg (f : Nat → UInt8) (n : Nat) : (rowL f n).map u8V = row8 f n := by simp [rowL, row8, u8V]
def keyR (w : List UInt8) : Nat → UInt8 := qez fun j => w.getD j 0
def keyK (w : List UInt8) (i : Nat) : Nat := (q0h (((rowL (keyR w) 16).drop (8 * i)).take 8)).toNat
def tagN (w all : List UInt8) : N3 := (qek (keyK w 0) (keyK w 1) z3 all).last.plus ⟨(q0h ((w.drop 16).take 8)).toNat, (q0h ((w.drop 24).take 8)).toNat, 0⟩
def tagF (w all : List UInt8) : List UInt8 := q1j (BitVec.ofNat 64 (tagN w all).a) 8 ++ q1j (BitVec.ofNat 64 (tagN w all).b) 8
theorem qx9 (E : EnvT tab) (h : Heap) {v : Value} (w : List UInt8) (L : List (List UInt8)) (hw : w.length = 32) (hl : L.length ≤ 100000) (ht : L.flatten.length ≤ 100000000) (s : SlL h v L) :
    ACallN E.toEnv qxf [.agg (w.map u8V).toArray, v] h fun r h' => h.le h' ∧ r = .agg ((tagF w L.flatten).map u8V).toArray := by
  refine q0o qmk qfh rfl rfl (q03 ?_)
  unfold qfh
  have hw' : (w.map u8V).length = 32 := by simp [hw]
  simp -implicitDefEqProofs only [zA,reduceCtorEq,Nat.reduceEqDiff,Nat.reduceAdd]
  rw [hw']
  intro b2 hb2 b4 hb4
  try simp -implicitDefEqProofs only [zA,reduceIte,reduceCtorEq,Nat.reduceEqDiff,Nat.reduceAdd,Nat.reduceMul,Nat.reduceLT,Nat.reduceSub,Int.reduceLT,Int.reduceLE,Int.reduceEq,Int.reduceNe,Int.reduceSub,Int.reduceAdd,Int.reduceMul,Int.reduceBEq,Int.reduceBNe,Int.reduceGT,Int.reduceGE,Nat.reduceGT,Int.reduceToNat,Int.reduceNeg,Nat.reduceLeDiff,Nat.reduceBEq,Nat.reduceBneDiff]
  rw [List.length_replicate]
  have n42 := (Heap.q0b.1 hb4).1
  have hb4' := (Heap.q0b.1 hb4).2
  have bd1 : bnds 32 32 none (some (some (.int .i64 16))) none = some (0, 16, 32) := q5t (by omega) (by omega)
  have le0 : h.le ((h.set b2 (.own 0 (w.map u8V) 32)).set b4 (.own 0 (List.replicate 16 (.int .u8 0)) 16)) := Heap.q02 (Heap.q02 (Heap.q04 _) hb2 _) hb4' _
  have q2 : ((h.set b2 (.own 0 (w.map u8V) 32)).set b4 (.own 0 (List.replicate 16 (.int .u8 0)) 16)) b2 = some (.own 0 (w.map u8V) 32) := by rw [Heap.q0d (Ne.symm n42), Heap.q01]
  have q4 : ((h.set b2 (.own 0 (w.map u8V) 32)).set b4 (.own 0 (List.replicate 16 (.int .u8 0)) 16)) b4 = some (.own 0 (List.replicate 16 (.int .u8 0)) 16) := Heap.q01 _ _ _
  generalize ((h.set b2 (.own 0 (w.map u8V) 32)).set b4 (.own 0 (List.replicate 16 (.int .u8 0)) 16)) = h1 at le0 q2 q4 ⊢
  have c16 : q05 h1 ⟨b2, 0, none⟩ 16 = some (row8 (fun j => w.getD j 0) 16) := by
    rw [q0l q2 (by simp [hw]), List.drop_zero, ← List.map_take, ← qkd]
    have : (w.take 16).length = 16 := by simp [hw]
    rw [this]
    congr 1
    apply q1s
    intro k hk
    simp [List.getElem?_take, hk]
  simp -implicitDefEqProofs only [zA,reduceCtorEq,Nat.reduceEqDiff,bd1,Nat.sub_zero,addz,c16]
  refine (qt5 E h1 _).mono ?_
  rintro r h2 ⟨le2, rfl⟩
  have eR : row8 (qez fun j => w.getD j 0) 16 = (rowL (keyR w) 16).map u8V := (qdg _ _).symm
  rw [eR]
  have hk0 : keyK w 0 = (q0h ((rowL (keyR w) 16).take 8)).toNat := rfl
  have hk1 : keyK w 1 = (q0h (((rowL (keyR w) 16).drop 8).take 8)).toNat := rfl
  have hR := q3c (keyR w) 16
  generalize rowL (keyR w) 16 = R at hk0 hk1 hR ⊢
  simp -implicitDefEqProofs only [zA,Nat.reduceEqDiff]
  intro b5 hb5
  rw [List.length_replicate]
  have st5 : q0a (h2.set b5 (.own 0 (List.replicate 16 (.int .u8 0)) 16)) 16 (.pointer (some ⟨b5, 0, none⟩)) (.agg (R.map u8V).toArray) = some (h2.set b5 (.own 0 (R.map u8V) 16)) := z6z (by omega) (by simp [hR]) (q1i _) (by simp) (by omega)
  have bd2 : bnds 16 16 none (some (some (.int .i64 8))) none = some (0, 8, 16) := q5t (by omega) (by omega)
  have bd3 : bnds 16 16 (some (some (.int .i64 8))) none none = some (8, 16, 16) := qb4 (by omega) (by omega)
  have q25 := le2 _ _ q2
  have q45 := le2 _ _ q4
  have n52 := q06 hb5 q25
  have n54 := q06 hb5 q45
  have le3 : h.le (h2.set b5 (.own 0 (R.map u8V) 16)) := Heap.q1c (Heap.q00 le0 le2) hb5 _
  have r5 := qgl (l := R) (sz := 16) (H := h2.set b5 (.own 0 (R.map u8V) 16)) (Heap.q01 _ _ _)
  have r2 : (h2.set b5 (.own 0 (R.map u8V) 16)) b2 = some (.own 0 (w.map u8V) 32) := by rw [Heap.q0d n52]; exact q25
  have r4 : (h2.set b5 (.own 0 (R.map u8V) 16)) b4 = some (.own 0 (List.replicate 16 (.int .u8 0)) 16) := by rw [Heap.q0d n54]; exact q45
  have ea : (Addr.add ⟨b5, 0, none⟩ 8 : Addr) = ⟨b5, 8, none⟩ := by rw [qfz, Nat.zero_add]
  simp -implicitDefEqProofs only [zA,reduceCtorEq,Nat.reduceEqDiff,st5,bd2,Nat.sub_zero,addz]
  generalize (h2.set b5 (.own 0 (R.map u8V) 16)) = h3 at le3 r5 r2 r4 ⊢
  have s51 := Sl.qsj r5 (m := 8) (by omega)
  rw [hR] at s51
  refine (qaq E h3 (R.take 8) (by simp; omega) s51).mono ?_
  rintro r h4 ⟨le4, rfl⟩
  simp -implicitDefEqProofs only [zA,Nat.reduceEqDiff,Nat.reduceSub,bd3,ea,implies_true,List.mem_singleton]
  have s52 : SlB h4 (.slice (some ⟨b5, 8, none⟩) 8 8) ((R.drop 8).take 8) := by
    have := Sl.qwu (a := 8) (b := 16) (by rw [hR] at r5; rw [hR]; exact r5) (by omega) (by omega)
    rw [if_neg (by omega), Option.map_some, ea] at this
    exact Sl.le le4 this
  refine (qaq E h4 ((R.drop 8).take 8) (by simp; omega) s52).mono ?_
  rintro r h5 ⟨le5, rfl⟩
  unfold u64V
  rw [← hk0, ← hk1]
  have lk0 : keyK w 0 < 18446744073709551616 := BitVec.isLt _
  have lk1 : keyK w 1 < 18446744073709551616 := BitVec.isLt _
  generalize hKK0 : keyK w 0 = k0 at *
  generalize hKK1 : keyK w 1 = k1 at *
  simp -implicitDefEqProofs only [zA,Nat.reduceEqDiff,Nat.reduceAdd,Nat.reduceLeDiff]
  intro b6 hb6 b7 hb7
  have le35 := Heap.q00 le4 le5
  have r25 := le35 _ _ r2
  have r45 := le35 _ _ r4
  have n62 := q06 hb6 r25
  have n64 := q06 hb6 r45
  have n76 := (Heap.q0b.1 hb7).1
  have hb7' := (Heap.q0b.1 hb7).2
  have n72 := q06 hb7' r25
  have n74 := q06 hb7' r45
  have le6 : h.le ((h5.set b6 (.own 0 [.int .u64 (k0 : Int), .int .u64 (k1 : Int)] 2)).set b7 (.own 0 [.int .u64 0, .int .u64 0, .int .u64 0] 3)) := by
    have a := Heap.q00 le3 le35
    exact Heap.q02 (Heap.q02 a (Heap.q08 a hb6) _) (Heap.q08 a hb7') _
  have t2 : ((h5.set b6 (.own 0 [.int .u64 (k0 : Int), .int .u64 (k1 : Int)] 2)).set b7 (.own 0 [.int .u64 0, .int .u64 0, .int .u64 0] 3)) b2 = some (.own 0 (w.map u8V) 32) := by rw [Heap.q0d n72, Heap.q0d n62]; exact r25
  have t4 : ((h5.set b6 (.own 0 [.int .u64 (k0 : Int), .int .u64 (k1 : Int)] 2)).set b7 (.own 0 [.int .u64 0, .int .u64 0, .int .u64 0] 3)) b4 = some (.own 0 (List.replicate 16 (.int .u8 0)) 16) := by rw [Heap.q0d n74, Heap.q0d n64]; exact r45
  have t6 : ((h5.set b6 (.own 0 [.int .u64 (k0 : Int), .int .u64 (k1 : Int)] 2)).set b7 (.own 0 [.int .u64 0, .int .u64 0, .int .u64 0] 3)) b6 = some (.own 0 [.int .u64 (k0 : Int), .int .u64 (k1 : Int)] 2) := by rw [Heap.q0d (Ne.symm n76), Heap.q01]
  have t7 : ((h5.set b6 (.own 0 [.int .u64 (k0 : Int), .int .u64 (k1 : Int)] 2)).set b7 (.own 0 [.int .u64 0, .int .u64 0, .int .u64 0] 3)) b7 = some (.own 0 z3.cells 3) := Heap.q01 _ _ _
  have hb7h : h b7 = none := Heap.q08 (Heap.q00 le3 le35) hb7'
  generalize ((h5.set b6 (.own 0 [.int .u64 (k0 : Int), .int .u64 (k1 : Int)] 2)).set b7 (.own 0 [.int .u64 0, .int .u64 0, .int .u64 0] 3)) = h6 at le6 t2 t4 t6 t7 ⊢
  refine (Concat_c E h6 L hl ht (s.le le6)).mono ?_
  rintro v8 h7 ⟨le7, ow8⟩
  have s8 := ow8.sl
  obtain ⟨b8, c8, rfl⟩ := Sl.shape s8
  have hall := Nat.le_refl L.flatten.length
  have u2 := le7 _ _ t2
  have u4 := le7 _ _ t4
  have u6 := le7 _ _ t6
  have u7 := le7 _ _ t7
  have leh7 := Heap.q00 le6 le7
  simp -implicitDefEqProofs only [zA,Nat.reduceEqDiff]
  refine q0c (fun m t H => h6.le (H.set b7 (.own 0 z3.cells 3)) ∧ h.le H ∧ ∃ (l : List UInt8) (v8 : Value) (S : N3), t = tl [(2, .pointer (some ⟨b2, 0, none⟩)), (4, .pointer (some ⟨b4, 0, none⟩)), (6, .pointer (some ⟨b6, 0, none⟩)), (7, .pointer (some ⟨b7, 0, none⟩)), (8, v8)] ∧ m = l.length ∧ l.length ≤ 100000000 ∧
      H b7 = some (.own 0 S.cells 3) ∧ S.ok ∧ (∀ X, SlB (H.set b7 X) v8 l) ∧ qek k0 k1 S l = qek k0 k1 z3 L.flatten) L.flatten.length
    ⟨by rw [Heap.qad u7]; exact le7, leh7, L.flatten, _, z3, rfl, rfl, by omega, u7, qud, fun X => ow8.apart t7, rfl⟩ ?_
  clear u2 u4 u6 u7 s8 ow8 leh7 le7
  rintro m t H ⟨le6H, leH, l, v8, S, rfl, rfl, hl8, q7, okS, sl, hsum⟩
  have s8 := sl (.own 0 S.cells 3)
  rw [Heap.qad q7] at s8
  obtain ⟨b8, c8, rfl⟩ := Sl.shape s8
  have at6 : ∀ b X, b ≠ b7 → h6 b = some X → H b = some X := fun b X hne hx => by
    have := le6H b X hx
    rwa [Heap.q0d hne] at this
  have p6 := at6 b6 _ (Ne.symm n76) t6
  have p2 := at6 b2 _ n72 t2
  have p4 := at6 b4 _ n74 t4
  by_cases hlt : 0 < l.length
  · have g0 : (0 : Int) < l.length := by omega
    obtain ⟨N, hN⟩ : ∃ N, N = (l.take 16).length := ⟨_, rfl⟩
    have hN2 : N ≤ 16 ∧ N ≤ l.length ∧ 0 < N := by rw [hN, List.length_take]; omega
    have hmn : (if (16 : Int) < (l.length : Int) then (16 : Int) else (l.length : Int)) = (N : Int) := by
      rw [hN, List.length_take]
      split <;> omega
    have hc8 : l.length ≤ c8 := by
      rcases s8 with ⟨e, hz, _⟩ | ⟨_, _, e, hc, _⟩
      · omega
      · simp only [Value.slice.injEq] at e; omega
    have bdN : bnds l.length c8 none (some (some (.int .i64 (N : Int)))) none = some (0, N, c8) := by rw [q5t (by omega) (by omega), Int.toNat_natCast]
    simp -implicitDefEqProofs only [zA,Nat.reduceEqDiff,g0,hmn,bdN]
    rw [addO b8 c8 (fun a _ => qf1 a), Nat.sub_zero]
    have st := Sl.qsj s8 (m := N) (by omega)
    have eT : l.take N = l.take 16 := by
      rw [hN, List.length_take]
      by_cases c : 16 ≤ l.length
      · rw [Nat.min_eq_left c]
      · rw [Nat.min_eq_right (by omega), List.take_of_length_le (Nat.le_refl _), List.take_of_length_le (by omega)]
    rw [eT] at st
    refine (qpx E H (l.take 16) (by omega) (by unfold SlB; rw [← hN]; unfold SlB at st; rw [← hN] at st; exact st)).mono ?_
    rintro v9 h8 ⟨le8, ow9⟩
    simp -implicitDefEqProofs only [zA]
    intro bO hbO
    try simp -implicitDefEqProofs only [zA,Nat.reduceEqDiff]
    refine q0t (bytes := 1) (m := 1) (news := [.int .u8 1]) (Heap.q1c le8 hbO _) (by omega) (ow9.le (Heap.q02 (Heap.q04 _) hbO _)) (Sl.lit (n := 1) rfl) rfl (by omega) (by omega) ?_
    intro v10 h9 ow10 le9
    have w32 : IntKind.i64.wrap (32 - (N : Int)) = ((32 - N : Nat) : Int) := by rw [q0w (by omega) (by omega)]; omega
    simp -implicitDefEqProofs only [zA,Nat.reduceEqDiff,w32]
    refine qpq (m := 32 - N) le9 (by omega) ow10 rfl rfl (by omega) (by omega) ?_
    intro v11 h10 ow11 le10
    have eB : (l.take 16).map u8V ++ [Value.int .u8 1] ++ (List.replicate (32 - N) [Value.int .u8 0]).flatten = (qd4 l).map u8V := by
      unfold qd4
      rw [← hN, List.flatten_replicate_singleton]
      simp only [List.map_append, List.map_replicate]
      rfl
    have lB : (qd4 l).length = 33 := by unfold qd4; rw [← hN]; simp only [List.length_append, List.length_replicate, ← hN, List.length_cons, List.length_nil]; omega
    rw [eB] at ow11
    have e33 : (l.take 16).length + 1 + (32 - N) = 33 := by omega
    rw [e33] at ow11
    have sB : SlB h10 v11 (qd4 l) := by unfold SlB; rw [lB]; exact ow11.sl
    have hbl : qpn l = ⟨(q0h ((qd4 l).take 8)).toNat, (q0h (((qd4 l).drop 8).take 8)).toNat, ((qd4 l).getD 16 0).toNat⟩ := rfl
    have hts := qoj (k0 := k0) (k1 := k1) (s := S) hlt
    rw [hbl] at hts
    generalize qd4 l = B at *
    obtain ⟨b11, c11, rfl⟩ := Sl.shape sB
    have hc11 : B.length ≤ c11 := by
      rcases sB with ⟨e, hz, _⟩ | ⟨_, _, e, hc, _⟩
      · omega
      · simp only [Value.slice.injEq] at e; omega
    obtain ⟨bb, oo, c', hv, _, hat⟩ := Sl.q7x sB 16 (by omega)
    simp only [Value.slice.injEq, true_and] at hv
    obtain ⟨rfl, rfl⟩ := hv
    have bd8 : bnds B.length c11 none (some (some (.int .i64 8))) none = some (0, 8, c11) := q5t (by omega) (by omega)
    have bd816 : bnds B.length c11 (some (some (.int .i64 8))) (some (some (.int .i64 16))) none = some (8, 16, c11) := qho (by omega) (by omega) (by omega)
    have y7 : ∀ H', h10.le H' → q05 H' ⟨b7, 0, none⟩ 3 = some S.cells := fun H' x => by rw [q0l (x _ _ (le10 _ _ q7)) (by simp [N3.cells])]; rfl
    have y6 : ∀ H', h10.le H' → q05 H' ⟨b6, 0, none⟩ 2 = some [.int .u64 (k0 : Int), .int .u64 (k1 : Int)] := fun H' x => by rw [q0l (x _ _ (le10 _ _ p6)) (by simp)]; rfl
    have y16 : ∀ H', h10.le H' → q0x H' ⟨bb, oo + 16, none⟩ = some (.int .u8 ((B.getD 16 0).toNat : Int)) := fun H' x => by
      rw [hat H' x]
      have : B.getD 16 0 = B[16]'(by omega) := by simp [List.getD_eq_getElem?_getD, List.getElem?_eq_getElem (show 16 < B.length by omega)]
      rw [this]; rfl
    have sB8 := Sl.qsj sB (m := 8) (by omega)
    have g16 : (16 : Int) < B.length := by omega
    simp -implicitDefEqProofs only [zA,Nat.reduceEqDiff,bd8,Nat.sub_zero,addz,ite_self]
    refine (qaq E h10 (B.take 8) (by simp; omega) (by unfold SlB; unfold SlB at sB8; have : (B.take 8).length = 8 := (by simp; omega); rw [this] at sB8 ⊢; exact sB8)).mono ?_
    rintro r h11 ⟨le11, rfl⟩
    have sM := Sl.le le11 (Sl.qwu sB (a := 8) (b := 16) (by omega) (by omega))
    have a1 := y7 h10 (Heap.q04 _)
    have a2 := y7 h11 le11
    simp -implicitDefEqProofs only [zA,Nat.reduceEqDiff,Nat.reduceSub,bd816,implies_true,List.mem_singleton]
    refine (qaq E h11 ((B.drop 8).take 8) (by simp; omega) sM).mono ?_
    rintro r h12 ⟨le12, rfl⟩
    have le1012 := Heap.q00 le11 le12
    have a3 := y7 h12 le1012
    have b1' := y16 h10 (Heap.q04 _)
    have b2' := y16 h11 le11
    have b3' := y16 h12 le1012
    have g16' : (16 : Int) < (B.length : Int) := g16
    have wz : IntKind.u64.wrap ((B.getD 16 0).toNat : Int) = ((B.getD 16 0).toNat : Int) := qei (by have := (B.getD 16 0).toNat_lt; omega)
    have eS : Value.agg S.cells.toArray = S.V := rfl
    simp -implicitDefEqProofs only [zA,Nat.reduceEqDiff,Nat.reduceAdd,Int.reduceLE,Int.reduceToNat,Nat.reduceLeDiff,u64V,a1,a2,a3,b1',b2',b3',g16',wz,eS,implies_true,List.mem_cons,forall_eq_or_imp,List.not_mem_nil]
    generalize hM : (⟨(q0h (B.take 8)).toNat, (q0h ((B.drop 8).take 8)).toNat, (B.getD 16 0).toNat⟩ : N3) = M at *
    have okM : M.ok := by rw [← hM]; exact ⟨BitVec.isLt _, BitVec.isLt _, by have := (B.getD 16 0).toNat_lt; simp only; omega⟩
    have eM : Value.agg #[.int .u64 ((q0h (B.take 8)).toNat : Int), .int .u64 ((q0h ((B.drop 8).take 8)).toNat : Int), .int .u64 ((B.getD 16 0).toNat : Int)] = M.V := by rw [← hM]; rfl
    rw [eM]
    refine (qar E h12 S M okS okM).mono ?_
    rintro r h13 ⟨le13, rfl⟩
    have le1013 := Heap.q00 le1012 le13
    have d0 := y6 h10 (Heap.q04 _)
    have d1 := y6 h11 le11
    have d2 := y6 h12 le1012
    have d3 := y6 h13 le1013
    simp -implicitDefEqProofs only [zA,Nat.reduceEqDiff,Nat.reduceAdd,d0,d1,d2,d3,implies_true,List.mem_cons,forall_eq_or_imp,List.not_mem_nil]
    refine (quv E h13 (S.plus M) k0 k1 (N3.qac _ _) lk0 lk1).mono ?_
    rintro r h14 ⟨le14, rfl⟩
    have leH14 := Heap.q00 le10 (Heap.q00 le1013 le14)
    have okT : ((S.plus M).times k0 k1).ok := N3.qrd _
    generalize (S.plus M).times k0 k1 = T at *
    have st7 := qit T (leH14 _ _ q7) rfl
    have bdD : bnds l.length c8 (some (some (.int .i64 (N : Int)))) none none = some (N, l.length, c8) := by rw [qb4 (by omega) (by omega), Int.toNat_natCast]
    simp -implicitDefEqProofs only [zA,Nat.reduceEqDiff,st7,bdD]
    have eD : l.drop N = l.drop 16 := by
      rw [hN, List.length_take]
      by_cases c : 16 ≤ l.length
      · rw [Nat.min_eq_left c]
      · rw [Nat.min_eq_right (by omega), List.drop_eq_nil_of_le (Nat.le_refl _), List.drop_eq_nil_of_le (by omega)]
    have lD : (l.drop 16).length = l.length - N := by rw [← eD, List.length_drop]
    refine ⟨(l.drop 16).length, by omega, fun b x hx => qzo leH14 b7 _ b x (le6H b x hx), Heap.q02 (Heap.q00 leH leH14) hb7h _, l.drop 16, _, T, rfl, rfl, by omega, Heap.q01 _ _ _, okT, fun X => ?_, by rw [← hts]; exact hsum⟩
    have sp := Sl.post (sl X) (k := N) (by omega)
    simp only [Nat.mul_one] at sp
    rw [← List.map_drop, eD] at sp
    unfold SlB
    rw [lD]
    exact Sl.le (qzo leH14 b7 X) sp
  · have g0 : ¬ (0 : Int) < l.length := by omega
    rw [qj5 hlt] at hsum
    have l7 : q05 H ⟨b7, 0, none⟩ 3 = some S.cells := by rw [q0l q7 (by simp [N3.cells])]; rfl
    have eS : Value.agg S.cells.toArray = S.V := rfl
    have hT : tagN w L.flatten = S.last.plus ⟨(q0h ((w.drop 16).take 8)).toNat, (q0h ((w.drop 24).take 8)).toNat, 0⟩ := by
      unfold tagN; rw [hKK0, hKK1, ← hsum]
    simp -implicitDefEqProofs only [zA,Nat.reduceEqDiff,g0,l7,eS]
    refine (qxc E H S okS).mono ?_
    rintro r h8 ⟨le8, rfl⟩
    have okL := N3.last_ok S
    generalize S.last = Z at *
    have bdA : bnds 32 32 (some (some (.int .i64 16))) (some (some (.int .i64 24))) none = some (16, 24, 32) := qho (by omega) (by omega) (by omega)
    have bdB : bnds 32 32 (some (some (.int .i64 24))) none none = some (24, 32, 32) := qb4 (by omega) (by omega)
    have eA1 : (Addr.add ⟨b2, 0, none⟩ 16 : Addr) = ⟨b2, 16, none⟩ := by rw [qfz, Nat.zero_add]
    have eA2 : (Addr.add ⟨b2, 0, none⟩ 24 : Addr) = ⟨b2, 24, none⟩ := by rw [qfz, Nat.zero_add]
    have sW := qgl (le8 _ _ p2)
    have sA : SlB h8 (.slice (some ⟨b2, 16, none⟩) 8 16) ((w.drop 16).take 8) := by
      have := Sl.qwu (a := 16) (b := 24) sW (by omega) (by omega)
      rw [hw, if_neg (by omega), Option.map_some, eA1] at this
      exact this
    have sB : SlB h8 (.slice (some ⟨b2, 24, none⟩) 8 8) ((w.drop 24).take 8) := by
      have := Sl.qwu (a := 24) (b := 32) sW (by omega) (by omega)
      rw [hw, if_neg (by omega), Option.map_some, eA2] at this
      exact this
    simp -implicitDefEqProofs only [zA,Nat.reduceEqDiff,Nat.reduceSub,bdA,eA1,implies_true,List.mem_singleton]
    refine (qaq E h8 ((w.drop 16).take 8) (by simp; omega) sA).mono ?_
    rintro r h9 ⟨le9, rfl⟩
    simp -implicitDefEqProofs only [zA,Nat.reduceEqDiff,Nat.reduceAdd,Nat.reduceSub,bdB,eA2,implies_true]
    refine (qaq E h9 ((w.drop 24).take 8) (by simp; omega) (Sl.le le9 sB)).mono ?_
    rintro r h10 ⟨le10, rfl⟩
    simp -implicitDefEqProofs only [zA,Nat.reduceEqDiff,Nat.reduceAdd,Nat.reduceLeDiff,u64V]
    generalize hM : (⟨(q0h ((w.drop 16).take 8)).toNat, (q0h ((w.drop 24).take 8)).toNat, 0⟩ : N3) = M at *
    have okM : M.ok := by rw [← hM]; exact ⟨BitVec.isLt _, BitVec.isLt _, by simp⟩
    have eM : Value.agg #[.int .u64 ((q0h ((w.drop 16).take 8)).toNat : Int), .int .u64 ((q0h ((w.drop 24).take 8)).toNat : Int), .int .u64 0] = M.V := by rw [← hM]; rfl
    rw [eM]
    refine (qar E h10 Z M okL okM).mono ?_
    rintro r h11 ⟨le11, rfl⟩
    have okT := N3.qac Z M
    have hF : tagF w L.flatten = q1j (BitVec.ofNat 64 (Z.plus M).a) 8 ++ q1j (BitVec.ofNat 64 (Z.plus M).b) 8 := by unfold tagF; rw [hT]
    rw [hF]
    generalize Z.plus M = T at *
    simp -implicitDefEqProofs only [zA,Nat.reduceEqDiff,Nat.reduceAdd]
    intro bT hbT
    have stT : q0a (h11.set bT (.own 0 [.int .u64 0, .int .u64 0, .int .u64 0] 3)) 3 (.pointer (some ⟨bT, 0, none⟩)) T.V = some (h11.set bT (.own 0 T.cells 3)) := z6z (by omega) rfl rfl rfl (by omega)
    have le12 : H.le (h11.set bT (.own 0 T.cells 3)) := Heap.q1c (Heap.q00 le8 (Heap.q00 le9 (Heap.q00 le10 le11))) hbT _
    have qT : (h11.set bT (.own 0 T.cells 3)) bT = some (.own 0 T.cells 3) := Heap.q01 _ _ _
    simp -implicitDefEqProofs only [zA,Nat.reduceEqDiff,Int.reduceLT,Int.reduceLE,Int.reduceToNat,stT]
    generalize (h11.set bT (.own 0 T.cells 3)) = h12 at le12 qT ⊢
    have lA : ∀ H', h12.le H' → q0x H' ⟨bT, 0, none⟩ = some (.int .u64 (T.a : Int)) := fun H' x => q0k (x _ _ qT) (by simp [N3.cells])
    have lB : ∀ H', h12.le H' → q0x H' ⟨bT, 1, none⟩ = some (.int .u64 (T.b : Int)) := fun H' x => q0k (x _ _ qT) (by simp [N3.cells])
    have eA : (T.a : Int) = ((BitVec.ofNat 64 T.a).toNat : Int) := by have := okT.1; simp; omega
    have eB : (T.b : Int) = ((BitVec.ofNat 64 T.b).toNat : Int) := by have := okT.2.1; simp; omega
    rw [eA] at lA
    rw [eB] at lB
    generalize BitVec.ofNat 64 T.a = A at *
    generalize BitVec.ofNat 64 T.b = D at *
    have a1 := lA h12 (Heap.q04 _)
    have a2 := lB h12 (Heap.q04 _)
    simp -implicitDefEqProofs only [zA,Nat.reduceEqDiff,a1]
    refine (q7z E h12 [] (by simp) (.inl ⟨rfl, rfl, rfl⟩) A 8 (by omega)).mono ?_
    rintro vA h13 ⟨le13, owA⟩
    rw [List.nil_append] at owA
    have a3 := lB h13 le13
    simp -implicitDefEqProofs only [zA,Nat.reduceEqDiff,Int.reduceLT,Int.reduceLE,Int.reduceToNat,a2,a3,implies_true,List.mem_singleton,forall_eq]
    refine (q7z E h13 (q1j A 8) (by rw [q1f]; omega) owA.sl D 8 (by omega)).mono ?_
    rintro vD h14 ⟨le14, owD⟩
    have lO : (q1j A 8 ++ q1j D 8).length = 16 := by rw [List.length_append, q1f, q1f]
    have sO := owD.sl
    generalize q1j A 8 ++ q1j D 8 = O at *
    obtain ⟨bO, oO, cO, rfl, hcO, hclO⟩ := sO.ptr (by omega) (by omega)
    have g16 : (16 : Int) ≤ O.length := by omega
    rw [lO] at hclO
    have leH14 := Heap.q00 le12 (Heap.q00 le13 le14)
    have q4' := leH14 _ _ p4
    have st4 : q0a h14 16 (.pointer (some ⟨b4, 0, none⟩)) (.agg (O.map u8V).toArray) = some (h14.set b4 (.own 0 (O.map u8V) 16)) := q0f q4' (by omega) (by simp [lO]) (q1i _) (by simp) (by omega)
    have l4 : q05 (h14.set b4 (.own 0 (O.map u8V) 16)) ⟨b4, 0, none⟩ 16 = some (O.map u8V) := z6x (by simp [lO])
    have hO16 : 16 ≤ O.length := by omega
    simp -implicitDefEqProofs only [zA,Nat.reduceEqDiff,hclO,st4,l4,lO]
    exact Heap.q02 (Heap.q00 leH leH14) hb4' _
theorem qu3 {f g : Nat → UInt8} {k : Nat} (h : f k = g k) : qez f k = qez g k := by
  unfold qez clB clA
  simp only [h]
def leN : List UInt8 → Nat
  | [] => 0
  | b :: l => b.toNat + 256 * leN l
theorem qwc : ∀ l : List UInt8, leN l < 256 ^ l.length
  | [] => by simp [leN]
  | b :: l => by
    have := qwc l
    have hb : b.toNat < 256 := b.toNat_lt
    simp only [leN, List.length_cons, Nat.pow_succ]
    omega
theorem shl_or8 (v : U64) (b : UInt8) (hv : v.toNat < 72057594037927936) : (v <<< 8 ||| BitVec.ofNat 64 b.toNat).toNat = b.toNat + 256 * v.toNat := by
  have hb : b.toNat < 2 ^ 8 := b.toNat_lt
  rw [BitVec.toNat_or, BitVec.toNat_shiftLeft, BitVec.toNat_ofNat, Nat.shiftLeft_eq, Nat.mod_eq_of_lt (by omega), Nat.mod_eq_of_lt (by omega), Nat.mul_comm, ← Nat.two_pow_add_eq_or_of_lt hb]
  omega
theorem q4e : ∀ l : List UInt8, l.length ≤ 8 → (q0h l).toNat = leN l
  | [], _ => rfl
  | b :: l, h => by
    have ih := q4e l (by simp at h; omega)
    have e : q0h (b :: l) = q0h l <<< 8 ||| BitVec.ofNat 64 b.toNat := by simp [q0h, qe3]
    have lt := qwc l
    have hp : 256 ^ l.length ≤ 256 ^ 7 := Nat.pow_le_pow_right (by decide) (by simp at h; omega)
    rw [e, shl_or8 _ _ (by rw [ih]; omega), ih, leN]
theorem qn7 (v : U64) (n i : Nat) (h : i < n) : (q1j v n).getD i 0 = UInt8.ofNat (v.toNat / 256 ^ i) := by
  have e : (256 : Nat) ^ i = 2 ^ (8 * i) := by rw [Nat.pow_mul]
  simp [q1j, List.getD, h, e, Nat.shiftRight_eq_div_pow]
theorem q8r : ∀ a b : List UInt8, leN (a ++ b) = leN a + 256 ^ a.length * leN b
  | [], b => by simp [leN]
  | x :: a, b => by
    simp only [List.cons_append, leN, q8r a b, List.length_cons, Nat.pow_succ]
    rw [Nat.mul_add, Nat.mul_comm (256 ^ a.length) 256, Nat.mul_assoc]; omega
theorem qqh (a : Nat) : UInt8.ofNat a = UInt8.ofNat (a % 256) := by
  apply UInt8.toNat_inj.1; simp
theorem gD_app (a b : List UInt8) (i : Nat) (h : i < a.length) : (a ++ b).getD i 0 = a.getD i 0 := by
  simp only [List.getD_eq_getElem?_getD, List.getElem?_append_left h]
theorem gD_app2 (a b : List UInt8) (i : Nat) (h : a.length ≤ i) : (a ++ b).getD i 0 = b.getD (i - a.length) 0 := by
  simp only [List.getD_eq_getElem?_getD, List.getElem?_append_right h]
theorem qto (x : N3) (hx : x.ok) (i : Nat) (h : i < 16) : (q1j (BitVec.ofNat 64 x.a) 8 ++ q1j (BitVec.ofNat 64 x.b) 8).getD i 0 = UInt8.ofNat (x.val / 256 ^ i) := by
  obtain ⟨ha, hb, hc⟩ := hx
  have ea : (BitVec.ofNat 64 x.a).toNat = x.a := by rw [BitVec.toNat_ofNat]; omega
  have eb : (BitVec.ofNat 64 x.b).toNat = x.b := by rw [BitVec.toNat_ofNat]; omega
  have key : ∀ j < 16, x.val / 256 ^ j % 256 = (if j < 8 then x.a / 256 ^ j else x.b / 256 ^ (j - 8)) % 256 := by
    intro j hj
    have : j = 0 ∨ j = 1 ∨ j = 2 ∨ j = 3 ∨ j = 4 ∨ j = 5 ∨ j = 6 ∨ j = 7 ∨ j = 8 ∨ j = 9 ∨ j = 10 ∨ j = 11 ∨ j = 12 ∨ j = 13 ∨ j = 14 ∨ j = 15 := by omega
    rcases this with rfl | rfl | rfl | rfl | rfl | rfl | rfl | rfl | rfl | rfl | rfl | rfl | rfl | rfl | rfl | rfl <;> simp only [N3.val] <;> simp <;> omega
  rw [qqh (x.val / 256 ^ i), key i h]
  by_cases g : i < 8
  · rw [if_pos g, gD_app _ _ _ (by rw [q1f]; exact g), qn7 _ _ _ g, ea, qqh (x.a / 256 ^ i)]
  · rw [if_neg g, gD_app2 _ _ _ (by rw [q1f]; omega), q1f, qn7 _ _ _ (by omega), eb, qqh (x.b / 256 ^ (i - 8))]
theorem mod_byte (x i : Nat) (h : i < 16) : x % 6277101735386680763835789423207666416102355444464034512896 / 256 ^ i % 256 = x / 256 ^ i % 256 := by
  have e : (6277101735386680763835789423207666416102355444464034512896 : Nat) = 256 ^ i * 256 ^ (24 - i) := by rw [← Nat.pow_add, show i + (24 - i) = 24 by omega]
  rw [e, Nat.mod_mul_right_div_self, Nat.mod_mod_of_dvd]
  exact Nat.dvd_trans (by decide) (Nat.pow_dvd_pow 256 (show 1 ≤ 24 - i by omega))
def tagA (r all : List UInt8) : Nat := (qek (keyK r 0) (keyK r 1) z3 all).last.val
theorem ql8 (r s : List UInt8) (hr : r.length = 16) (i : Nat) : keyK (r ++ s) i = keyK r i := by
  have : rowL (keyR (r ++ s)) 16 = rowL (keyR r) 16 := by
    unfold rowL
    apply List.map_congr_left
    intro j hj
    have hj16 : j < 16 := List.mem_range.1 hj
    exact qu3 (gD_app r s j (by omega))
  unfold keyK; rw [this]
theorem qyl (r s all : List UInt8) (hr : r.length = 16) (hs : s.length = 16) (i : Nat) (h : i < 16) : (tagF (r ++ s) all).getD i 0 = UInt8.ofNat ((tagA r all + leN s) / 256 ^ i) := by
  have d16 : (r ++ s).drop 16 = s := by rw [List.drop_left' hr]
  have d24 : (r ++ s).drop 24 = s.drop 8 := by rw [show 24 = 16 + 8 from rfl, ← List.drop_drop, d16]
  have hv : (⟨(q0h (s.take 8)).toNat, (q0h ((s.drop 8).take 8)).toNat, 0⟩ : N3).val = leN s := by
    rw [q4e _ (by simp; omega), q4e _ (by simp; omega)]
    rw [show (s.drop 8).take 8 = s.drop 8 by rw [List.take_of_length_le]; simp [hs]]
    conv => rhs; rw [← List.take_append_drop 8 s, q8r, List.length_take, hs]
    simp [N3.val]
  unfold tagF
  rw [qto (tagN (r ++ s) all) (N3.qac _ _) i h, qqh, qqh ((tagA r all + leN s) / 256 ^ i)]
  unfold tagN
  rw [N3.qww, mod_byte _ _ h, d16, d24, hv, ql8 r s hr, ql8 r s hr]
  rfl
theorem leN_zero (n : Nat) : leN (List.replicate n 0) = 0 := by
  induction n with
  | zero => rfl
  | succ n ih => rw [List.replicate_succ, leN, ih]; rfl
end Go.Bb
