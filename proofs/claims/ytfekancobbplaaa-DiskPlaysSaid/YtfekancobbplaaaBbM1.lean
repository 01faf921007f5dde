/- My contracts: BbW32 BbUl BbUj BbUq BbPal BbPdsk BbCoct BbCslc BbCdsk0 BbCdsk1 BbCdsk2 BbCdsk3 BbCdsk4 BbCdsk5. -/
import Derived.Test.YtfekancobbplaaaBbG3
import Derived.Test.YtfekancobbplaaaBbG1
import Derived.Test.YtfekancobbplaaaBbTab
/- Words: numbers of fixed width, as the walk meets them. -/
namespace Go.Bb
set_option linter.unusedSimpArgs false
set_option linter.unusedVariables false

abbrev U32 := BitVec 32
abbrev U64 := BitVec 64
def u8V (b : UInt8) : Value := .int .u8 b.toNat
theorem wrap_u64 (n : Int) : IntKind.u64.wrap n = ((BitVec.ofInt 64 n).toNat : Int) := by
  simp only [IntKind.wrap, IntKind.bits, IntKind.signed, BitVec.toNat_ofInt]
  simp
  omega
theorem ofInt_nat (w n : Nat) : BitVec.ofInt w (n : Int) = BitVec.ofNat w n := by simp
theorem ofInt_toNat {w : Nat} (x : BitVec w) : BitVec.ofInt w (x.toNat : Int) = x := by rw [ofInt_nat]; simp

section
variable (x y : U32) (n : Nat)
end
section
variable (x y : U64) (n : Nat)
theorem u64_and : IntKind.u64.wrap ((BitVec.ofInt IntKind.u64.bits (x.toNat : Int) &&& BitVec.ofInt IntKind.u64.bits (y.toNat : Int)).toNat : Int) = ((x &&& y).toNat : Int) := by
  rw [show IntKind.u64.bits = 64 from rfl, ofInt_toNat, ofInt_toNat, wrap_u64, ofInt_toNat]
theorem u64_shr (h : n ≤ 64) : ((x.toNat : Int).fdiv (2 ^ (min n IntKind.u64.bits))) = ((x >>> n).toNat : Int) := by
  rw [show IntKind.u64.bits = 64 from rfl, Nat.min_eq_left h, Int.fdiv_eq_ediv_of_nonneg _ (Int.le_of_lt (Int.pow_pos (by omega)))]
  simp [BitVec.toNat_ushiftRight, Nat.shiftRight_eq_div_pow]
end
end Go.Bb
/- Slices of bytes. -/
namespace Go.Bb
set_option linter.unusedSimpArgs false
set_option linter.unusedVariables false

abbrev SlB (h : Heap) (v : Value) (l : List UInt8) : Prop := Sl h 1 v l.length (l.map u8V)
abbrev OwB (h0 h : Heap) (v : Value) (l : List UInt8) : Prop := Ow h0 h 1 v l.length (l.map u8V)
theorem one_u8 (l : List UInt8) : (l.map u8V).all one = true := by simp [u8V, one]
theorem wrapI {n : Int} (h0 : -9223372036854775808 ≤ n) (h1 : n ≤ 9223372036854775807) : IntKind.i64.wrap n = n := by
  simp [IntKind.wrap, IntKind.bits, IntKind.signed]; omega
theorem wrapN {n : Nat} (h1 : n ≤ 9223372036854775806) : IntKind.i64.wrap ((n : Int) + 1) = ((n + 1 : Nat) : Int) := by rw [wrapI (by omega) (by omega)]; rfl

end Go.Bb
/- The walk's laws: slice expressions, copies, texts of bytes. -/
namespace Go.Bb
set_option linter.unusedSimpArgs false
set_option linter.unusedVariables false

theorem bnds_hi {n c : Nat} {k : IntKind} {z : Int} (h0 : 0 ≤ z) (h1 : z ≤ c) : bnds n c none (some (some (.int k z))) none = some (0, z.toNat, c) := by
  simp [bnds, bndV, h0, h1]
theorem bnds_lo {n c : Nat} {k : IntKind} {z : Int} (h0 : 0 ≤ z) (h1 : z ≤ n) : bnds n c (some (some (.int k z))) none none = some (z.toNat, n, c) := by
  simp [bnds, bndV, h0, h1]
theorem add_off' (b o n : Nat) : (⟨b, o, none⟩ : Addr).add n = ⟨b, o + n, none⟩ := by
  unfold Addr.add; split
  · rename_i h; subst h; rfl
  · rfl

/-- A part of a slice. -/
theorem Sl.pre {h : Heap} {size n c : Nat} {base : Option Addr} {cells : List Value} (s : Sl h size (.slice base n c) n cells) {k : Nat} (hk : k ≤ n) : Sl h size (.slice base k c) k (cells.take (k * size)) := by
  have hm : k * size ≤ n * size := Nat.mul_le_mul_right _ hk
  rcases s with ⟨e, rfl, rfl⟩ | ⟨a, c', e, h2, h3⟩
  · simp only [Value.slice.injEq] at e
    obtain ⟨rfl, _, rfl⟩ := e
    have : k = 0 := by omega
    subst this
    exact .inl ⟨rfl, rfl, by simp⟩
  · simp only [Value.slice.injEq] at e
    obtain ⟨rfl, _, rfl⟩ := e
    refine .inr ⟨a, c, rfl, by omega, ?_⟩
    by_cases hz : k * size = 0
    · rw [hz]; simp [hcells]
    · have := hcells_spot h3 (by omega)
      rw [this] at h3 ⊢
      have := hcells_sub h3 0 (k * size) (by omega)
      simpa using this
theorem Sl.post {h : Heap} {size n c : Nat} {base : Option Addr} {cells : List Value} (s : Sl h size (.slice base n c) n cells) {k : Nat} (hk : k ≤ n) :
    Sl h size (.slice (if c = k then base else base.map fun x => x.add (k * size)) (n - k) (c - k)) (n - k) (cells.drop (k * size)) := by
  have hm : k * size ≤ n * size := Nat.mul_le_mul_right _ hk
  rcases s with ⟨e, rfl, rfl⟩ | ⟨a, c', e, h2, h3⟩
  · simp only [Value.slice.injEq] at e
    obtain ⟨rfl, _, rfl⟩ := e
    have : k = 0 := by omega
    subst this
    exact .inl ⟨by simp, rfl, by simp⟩
  · simp only [Value.slice.injEq] at e
    obtain ⟨rfl, _, rfl⟩ := e
    have hl := hcells_length h3
    by_cases hck : c = k
    · have hnk : n - k = 0 := by omega
      refine .inr ⟨a, c - k, by simp [hck], by omega, ?_⟩
      rw [hnk, Nat.zero_mul]
      simp only [hcells, Option.some.injEq]
      rw [List.drop_eq_nil_of_le]
      have : n = k := by omega
      subst this; omega
    · refine .inr ⟨a.add (k * size), c - k, by simp [hck], by omega, ?_⟩
      by_cases hz : (n - k) * size = 0
      · rw [hz]
        simp only [hcells, Option.some.injEq]
        rw [List.drop_eq_nil_of_le]
        rw [Nat.sub_mul] at hz; omega
      · rw [Nat.sub_mul] at hz ⊢
        have := hcells_spot h3 (by omega)
        rw [this] at h3
        rw [this, add_off']
        have := hcells_sub h3 (k * size) (n * size - k * size) (by omega)
        rw [this]
        congr 1
        rw [List.take_of_length_le]
        simp [hl]

/-! ### copies -/
/-! ### texts -/
def strV (l : List UInt8) : Value := .string ⟨l.toArray⟩
theorem bytesV_map : ∀ l : List UInt8, bytesV (l.map fun b => Value.int .u8 b.toNat) = some l
  | [] => rfl
  | b :: l => by simp [bytesV, bytesV_map l]
theorem strOfV_sl {h : Heap} {v : Value} {l : List UInt8} (s : Sl h 1 v l.length (l.map u8V)) : strOfV h v = some (strV l) := by
  rcases s with ⟨rfl, hn, _⟩ | ⟨a, c, rfl, h2, h3⟩
  · have : l = [] := List.eq_nil_of_length_eq_zero hn
    subst this; rfl
  · rw [Nat.mul_one] at h3
    simp only [strOfV, h3]
    have := bytesV_map l
    unfold u8V
    rw [this]; rfl
theorem str_toList (l : List UInt8) : (⟨l.toArray⟩ : ByteArray).toList = l := by
  exact Go.ByteArray.toList_mk l
end Go.Bb
/- Slices of bytes, rows of bytes, slices of slices: what all contracts share. -/
namespace Go.Bb
set_option linter.unusedSimpArgs false
set_option linter.unusedVariables false

theorem Ow.off {h0 h : Heap} {bs : Nat} {X : Blk} {size n : Nat} {v : Value} {cells : List Value} (s : Ow (h0.set bs X) h size v n cells) (X' : Blk) : Ow (h0.set bs X') h size v n cells := by
  rcases s with s | ⟨b, o, c, sz, st, pre, rest, h1, h2, h3, h4⟩
  · exact .inl s
  · obtain ⟨g1, g2⟩ := Heap.set_none.1 h3
    exact .inr ⟨b, o, c, sz, st, pre, rest, h1, h2, Heap.set_none.2 ⟨g1, g2⟩, h4⟩
theorem Ow.put {h0 h : Heap} {bs : Nat} {X : Blk} {size n : Nat} {v : Value} {cells : List Value} (s : Ow (h0.set bs X) h size v n cells) (Y : Blk) : Ow (h0.set bs X) (h.set bs Y) size v n cells := by
  rcases s with s | ⟨b, o, c, sz, st, pre, rest, h1, h2, h3, h4, h5⟩
  · exact .inl s
  · obtain ⟨g1, g2⟩ := Heap.set_none.1 h3
    exact .inr ⟨b, o, c, sz, st, pre, rest, h1, h2, h3, by rw [Heap.set_ne g1]; exact h4, h5⟩
theorem Ow.post {h0 h : Heap} {size b o n c : Nat} {cells : List Value} (s : Ow h0 h size (.slice (some ⟨b, o, none⟩) n c) n cells) {k : Nat} (hk : k ≤ n) :
    Ow h0 h size (.slice (if c = k then some ⟨b, o, none⟩ else some (Addr.add ⟨b, o, none⟩ (k * size))) (n - k) (c - k)) (n - k) (cells.drop (k * size)) := by
  by_cases hck : c = k
  · rw [if_pos hck]
    rcases s with ⟨e, _, _⟩ | ⟨b', o', c', sz, st, pre, rest, h1, h2, h3, h4, h5, h6, h7⟩
    · cases e
    · simp only [Value.slice.injEq, Option.some.injEq, Addr.mk.injEq, and_true, true_and] at h1
      obtain ⟨⟨rfl, rfl⟩, rfl⟩ := h1
      have hnk : n = k := by omega
      subst hnk
      refine .inr ⟨b, o, c - n, sz, st, pre, cells ++ rest, rfl, by omega, h3, ?_, h5, ?_, ?_⟩
      · rw [List.drop_eq_nil_of_le (by omega), List.append_nil, ← List.append_assoc]; exact h4
      · rw [List.drop_eq_nil_of_le (by omega)]; simp
      · have : (c - n) * size ≤ c * size := Nat.mul_le_mul_right _ (by omega)
        omega
  · rw [if_neg hck, add_off']
    exact Ow.drop s hk
theorem Sl.headB {h : Heap} {base : Option Addr} {c m : Nat} {l : List UInt8} (s : SlB h (.slice base l.length c) l) (hm : m ≤ l.length) : SlB h (.slice base m c) (l.take m) := by
  have := Sl.pre s hm
  rw [Nat.mul_one, ← List.map_take] at this
  have e : (l.take m).length = m := by rw [List.length_take]; omega
  unfold SlB
  rw [e]; exact this
/-- A slice of slices of bytes. -/
def SlL (h : Heap) (v : Value) (L : List (List UInt8)) : Prop := ∃ vs : List Value, vs.length = L.length ∧ Sl h 1 v L.length vs ∧ ∀ i (h1 : i < vs.length) (h2 : i < L.length), SlB h vs[i] L[i]
theorem SlL.le {h h' : Heap} {v : Value} {L : List (List UInt8)} (x : h.le h') (s : SlL h v L) : SlL h' v L := by
  obtain ⟨vs, h1, h2, h3⟩ := s
  exact ⟨vs, h1, h2.le x, fun i a b => (h3 i a b).le x⟩
theorem SlL.one {h : Heap} {v : Value} {L : List (List UInt8)} (s : SlL h v L) : ∃ vs : List Value, vs.length = L.length ∧ Sl h 1 v L.length vs ∧ vs.all one = true ∧ ∀ i (h1 : i < vs.length) (h2 : i < L.length), SlB h vs[i] L[i] := by
  obtain ⟨vs, h1, h2, h3⟩ := s
  refine ⟨vs, h1, h2, ?_, h3⟩
  rw [List.all_eq_true]
  intro u hu
  obtain ⟨i, hi, rfl⟩ := List.getElem_of_mem hu
  obtain ⟨base, c, e⟩ := Sl.shape (h3 i hi (by omega))
  rw [e]; rfl
theorem SlL.cons {h : Heap} {v w : Value} {l : List UInt8} {L : List (List UInt8)} {vs : List Value} (h1 : vs.length = L.length) (h3 : ∀ i (h1 : i < vs.length) (h2 : i < L.length), SlB h vs[i] L[i]) (sw : SlB h w l) (s : Sl h 1 v (L.length + 1) (w :: vs)) : SlL h v (l :: L) := by
  refine ⟨w :: vs, by simp [h1], s, ?_⟩
  intro i a b
  cases i with
  | zero => exact sw
  | succ i => exact h3 i (by simpa using a) (by simpa using b)
theorem addO (x : Option Addr) (c : Nat) (h : ∀ a, x = some a → Addr.add a 0 = a) : (if c = 0 then x else x.map fun a => a.add 0) = x := by
  split
  · rfl
  · cases x with
    | none => rfl
    | some a => simp [h a rfl]
theorem addr_add0 (a : Addr) : Addr.add a 0 = a := by unfold Addr.add; simp
end Go.Bb
/- Colours of blocks: which thing a block belongs to; what is kept when a thing changes. -/
namespace Go.Bb
set_option linter.unusedSimpArgs false
set_option linter.unusedVariables false

/-- A colour: the thing, its part, the role there. -/
abbrev Col := Nat × Nat × Nat
abbrev Pal := Nat → Option Col
/-- The heap without the blocks of a colour. -/
def Heap.but (H : Heap) (κ : Pal) (c : Col) : Heap := fun b => if κ b = some c then none else H b
def Pal.grow (κ : Pal) (H : Heap) (c : Col) : Pal := fun b => if H b = none then some c else κ b
/-- What is not of the colours cs stays as it is. -/
def Ext (cs : Col → Prop) (κ : Pal) (H : Heap) (κ' : Pal) (H' : Heap) : Prop := ∀ b x, H b = some x → (∀ c, κ b = some c → ¬ cs c) → H' b = some x ∧ κ' b = κ b
/-- A slice that is ours by its colour. -/
abbrev OwK (κ : Pal) (c : Col) (H : Heap) (size : Nat) (v : Value) (n : Nat) (cells : List Value) : Prop := Ow (H.but κ c) H size v n cells

theorem Heap.but_le (H : Heap) (κ : Pal) (c : Col) : (H.but κ c).le H := by
  intro b x h; unfold Heap.but at h; split at h
  · cases h
  · exact h
theorem Heap.but_some {H : Heap} {κ : Pal} {c : Col} {b : Nat} {x : Blk} (h : H b = some x) (hk : κ b ≠ some c) : H.but κ c b = some x := by
  unfold Heap.but; rw [if_neg hk]; exact h
theorem Heap.but_none {H : Heap} {κ : Pal} {c : Col} {b : Nat} : H.but κ c b = none ↔ κ b = some c ∨ H b = none := by
  unfold Heap.but; split
  · rename_i h; simp [h]
  · rename_i h; simp [h]
theorem Ext.refl (cs : Col → Prop) (κ : Pal) (H : Heap) : Ext cs κ H κ H := fun b x h _ => ⟨h, rfl⟩
theorem Ext.trans {cs : Col → Prop} {κ κ' κ'' : Pal} {H H' H'' : Heap} (a : Ext cs κ H κ' H') (b : Ext cs κ' H' κ'' H'') : Ext cs κ H κ'' H'' := by
  intro i x h n
  obtain ⟨h1, h2⟩ := a i x h n
  obtain ⟨h3, h4⟩ := b i x h1 (by rw [h2]; exact n)
  exact ⟨h3, by rw [h4, h2]⟩
theorem Ext.mono {cs ds : Col → Prop} {κ κ' : Pal} {H H' : Heap} (a : Ext cs κ H κ' H') (hcd : ∀ c, cs c → ds c) : Ext ds κ H κ' H' := fun b x h n => a b x h fun c hc q => n c hc (hcd c q)
/-- A thing was only added to. -/
theorem Ext.le {cs : Col → Prop} {κ : Pal} {H H' : Heap} (h : H.le H') : Ext cs κ H κ H' := fun b x q _ => ⟨h b x q, rfl⟩
/-- A thing of one colour was turned; what is new has its colour. -/
theorem Ext.grow {κ : Pal} {H H' : Heap} {c : Col} (h : (H.but κ c).le H') : Ext (· = c) κ H (κ.grow H c) H' := by
  intro b x q n
  refine ⟨h b x (Heap.but_some q fun e => n c e rfl), ?_⟩
  unfold Pal.grow; rw [if_neg (by rw [q]; simp)]
/-- What is new gets a colour. -/
theorem Ext.tint {cs : Col → Prop} {κ : Pal} {H H' : Heap} {c : Col} (h : H.le H') : Ext cs κ H (κ.grow H c) H' := by
  intro b x q n
  refine ⟨h b x q, ?_⟩
  unfold Pal.grow; rw [if_neg (by rw [q]; simp)]
/-- A block of a colour was set. -/
theorem Ext.set {κ : Pal} {H : Heap} {b : Nat} {c : Col} (hb : κ b = some c) (X : Blk) : Ext (· = c) κ H κ (H.set b X) := by
  intro i x q n
  refine ⟨?_, rfl⟩
  rw [Heap.set_ne]
  · exact q
  · intro e; subst e; exact n c hb rfl
/-- A new block is set and gets a colour, or none. -/
theorem Ext.new {cs : Col → Prop} {κ : Pal} {H : Heap} {b : Nat} (hb : H b = none) (X : Blk) (c : Option Col) : Ext cs κ H (fun i => if i = b then c else κ i) (H.set b X) := by
  intro i x q n
  have e : i ≠ b := by intro e; subst e; rw [hb] at q; cases q
  refine ⟨by rw [Heap.set_ne e]; exact q, by simp [e]⟩
/-- A block without a colour stays. -/
theorem Ext.plain {cs : Col → Prop} {κ κ' : Pal} {H H' : Heap} (a : Ext cs κ H κ' H') {b : Nat} {x : Blk} (hk : κ b = none) (h : H b = some x) : H' b = some x ∧ κ' b = none := by
  obtain ⟨h1, h2⟩ := a b x h (fun d hd => by rw [hk] at hd; cases hd)
  exact ⟨h1, by rw [h2, hk]⟩
theorem Ext.blk {cs : Col → Prop} {κ κ' : Pal} {H H' : Heap} (a : Ext cs κ H κ' H') {b : Nat} {c : Col} {x : Blk} (hk : κ b = some c) (n : ¬ cs c) (h : H b = some x) : H' b = some x ∧ κ' b = some c := by
  obtain ⟨h1, h2⟩ := a b x h (fun d hd => by rw [hk] at hd; cases hd; exact n)
  exact ⟨h1, by rw [h2, hk]⟩
theorem Ext.own {cs : Col → Prop} {κ κ' : Pal} {H H' : Heap} (a : Ext cs κ H κ' H') {c : Col} (n : ¬ cs c) {size m : Nat} {v : Value} {cells : List Value} (s : OwK κ c H size v m cells) : OwK κ' c H' size v m cells := by
  rcases s with s | ⟨b, o, c', sz, st, pre, rest, h1, h2, h3, h4, h5⟩
  · exact .inl s
  · rcases Heap.but_none.1 h3 with hk | hn
    · obtain ⟨g1, g2⟩ := a.blk hk n h4
      exact .inr ⟨b, o, c', sz, st, pre, rest, h1, h2, Heap.but_none.2 (.inl g2), g1, h5⟩
    · rw [hn] at h4; cases h4
/-- What is owned after its own colour grew. -/
theorem OwK.grown {κ : Pal} {H H' : Heap} {c : Col} {size m : Nat} {v : Value} {cells : List Value} (s : Ow (H.but κ c) H' size v m cells) : OwK (κ.grow H c) c H' size v m cells := by
  rcases s with s | ⟨b, o, c', sz, st, pre, rest, h1, h2, h3, h4, h5⟩
  · exact .inl s
  · refine .inr ⟨b, o, c', sz, st, pre, rest, h1, h2, Heap.but_none.2 (.inl ?_), h4, h5⟩
    unfold Pal.grow
    rcases Heap.but_none.1 h3 with hk | hn
    · split
      · rfl
      · exact hk
    · rw [if_pos hn]
/-- What is new and ours gets a colour. -/
theorem OwK.tinted {κ : Pal} {H H' : Heap} {c : Col} {size m : Nat} {v : Value} {cells : List Value} (s : Ow H H' size v m cells) : OwK (κ.grow H c) c H' size v m cells := OwK.grown (s.since (Heap.but_le H κ c))
theorem OwK.le {κ : Pal} {H H' : Heap} {c : Col} {size m : Nat} {v : Value} {cells : List Value} (h : H.le H') (s : OwK κ c H size v m cells) : OwK κ c H' size v m cells := (Ext.le (cs := fun _ => False) h).own (fun q => q) s
end Go.Bb
/- Plain: what a disk is, file by file. -/
namespace Go.Bb

structure FileF where
  safe : List UInt8 := []
  writes : List (List UInt8) := []
def FileF.all (F : FileF) : List UInt8 := F.safe ++ F.writes.flatten
def FileF.size (F : FileF) : Nat := F.all.length
def FileF.sync (F : FileF) : FileF := ⟨F.all, []⟩
/-- Does write i stay? -/
def staysF (keep : BitVec 64) (i : Nat) : Bool := keep.getLsbD (min i 63)
/-- The last of the first n that stays (one more; 0: none). -/
def lastF (keep : BitVec 64) : Nat → Nat
  | 0 => 0
  | n + 1 => if staysF keep n then n + 1 else lastF keep n
/-- What is left of write i, if the last that stays is i = l - 1. -/
def leftF (keep : BitVec 64) (torn : Int) (l : Nat) (i : Nat) (w : List UInt8) : List UInt8 :=
  if staysF keep i then (if i + 1 = l ∧ 0 < torn then w.take (w.length - min torn.toNat w.length) else w) else List.replicate w.length 0
def keptF (keep : BitVec 64) (torn : Int) (l : Nat) (W : List (List UInt8)) (n : Nat) : List UInt8 :=
  (List.range n).flatMap fun i => leftF keep torn l i (W.getD i [])
def FileF.crash (F : FileF) (keep : BitVec 64) (torn : Int) : FileF :=
  ⟨F.safe ++ keptF keep torn (lastF keep F.writes.length) F.writes (lastF keep F.writes.length), []⟩

abbrev Files := List (List UInt8 × FileF)
structure DiskF where
  room : Int
  files : Files := []
  on : Bool := true
  lives : Int := 1
def goodName (s : List UInt8) : Bool := s.all (fun b => decide (33 ≤ b.toNat ∧ b.toNat ≤ 126)) && decide (1 ≤ s.length) && decide (s.length ≤ 20)
def lookF (L : Files) (s : List UInt8) : Option FileF := (L.find? fun x => decide (x.1 = s)).map (·.2)
def turnF' (L : Files) (s : List UInt8) (F : FileF) : Files := L.map fun x => if x.1 = s then (x.1, F) else x
def putFile (L : Files) (s : List UInt8) (F : FileF) : Files := if (lookF L s).isSome then turnF' L s F else L ++ [(s, F)]
def delFile (L : Files) (s : List UInt8) : Files := L.filter fun x => decide (x.1 ≠ s)
def sizeF (L : Files) : Nat := (L.map fun x => x.2.size).sum
def askF (D : DiskF) (names : List (List UInt8)) : Nat := if D.on then (if names.all goodName then 0 else 1) else 7
def writeF (F : FileF) (b : List UInt8) : FileF := ⟨F.safe, F.writes ++ [b]⟩
def appendF (D : DiskF) (s b : List UInt8) : DiskF × Nat :=
  if askF D [s] = 0 then
    (if D.room - (sizeF D.files : Nat) < (b.length : Nat) then (D, 6)
     else match lookF D.files s with
      | none => ({ D with files := D.files ++ [(s, ⟨[], [b]⟩)] }, 0)
      | some F => ({ D with files := turnF' D.files s (writeF F b) }, 0))
  else (D, askF D [s])
def syncF (D : DiskF) (s : List UInt8) : DiskF × Nat :=
  if askF D [s] = 0 then
    match lookF D.files s with
    | none => (D, 4)
    | some F => ({ D with files := turnF' D.files s F.sync }, 0)
  else (D, askF D [s])
def readF (D : DiskF) (s : List UInt8) : List UInt8 × Nat :=
  if askF D [s] = 0 then
    match lookF D.files s with
    | none => ([], 4)
    | some F => (F.all, 0)
  else ([], askF D [s])
def dropF (D : DiskF) (s : List UInt8) : DiskF × Nat :=
  if askF D [s] = 0 then
    match lookF D.files s with
    | none => (D, 4)
    | some _ => ({ D with files := delFile D.files s }, 0)
  else (D, askF D [s])
def renameF (D : DiskF) (s t : List UInt8) : DiskF × Nat :=
  if askF D [s, t] = 0 then
    match lookF D.files s with
    | none => (D, 4)
    | some F => ({ D with files := putFile (delFile D.files s) t F }, 0)
  else (D, askF D [s, t])
def crashF (D : DiskF) (keep : BitVec 64) (torn : Int) : DiskF := { D with files := D.files.map fun x => (x.1, x.2.crash keep torn), on := false }
def onF (D : DiskF) : DiskF := { D with on := true, lives := D.lives + 1 }
end Go.Bb
/- Contracts: bytes. -/
namespace Go.Bb
set_option linter.unusedSimpArgs false
set_option linter.unusedVariables false
set_option maxRecDepth 20000

theorem Clone_c (E : EnvT tab) (h : Heap) {v : Value} (l : List UInt8) (hl : l.length ≤ 140737488355328) (s : SlB h v l) : ACallN E.toEnv n_slices_Clone_byte_byte [v] h fun r h' => h.le h' ∧ OwB h h' r l := by
  refine acall h_slices_Clone_byte_byte ir_slices_Clone_byte_byte rfl rfl (wpA_sound ?_)
  unfold ir_slices_Clone_byte_byte
  rcases s with ⟨rfl, hn, hc⟩ | ⟨a, c, rfl, hc, hcl⟩
  · simp -implicitDefEqProofs only [zB1,zB2,zB3,zB4,zB5,zB6,zB7,zB8,zB9,zB10,zB11,y00,y01,y02,y03,y04,y05,y06,y07,y08,y09,y0a,y0b,y0c,y0d,y0e,y0f,y0g,y0h,y0i,y0j,y0k,y0l,y0m,y0n,y0o,y0p,y0q,y0r,y0s,y0t,y0u,y0v,y0w,y0x,y0y,y0z,y10,y11,y12,y13,y14,y15,y16,y17,y18,y19,y1a,y1b,y1c,y1d,y1e,y1f,y1g,y1h,y1i,y1j,y1k,y1l,y1m,y1n,y1o,y1p,y1q,y1r,retO,retL,retV,z6i,allV,allP,z6j,z6m,z6n,z6t,z6u,z6v,binV,eqV,unV,oOpt,reduceIte,reduceCtorEq,Nat.reduceEqDiff,Nat.reduceAdd,Nat.reduceMul,Nat.reduceLT,Nat.reduceSub,Int.reduceLT,Int.reduceLE,Int.reduceEq,Int.reduceNe,Int.reduceSub,Int.reduceAdd,Int.reduceMul,Int.reduceBEq,Int.reduceBNe,Int.reduceGT,Int.reduceGE,Nat.reduceGT,Int.reduceToNat,Int.reduceNeg,Nat.reduceLeDiff,Nat.reduceBEq,Nat.reduceBneDiff,Value.cells, Option.isNone]
    have : l = [] := List.eq_nil_of_length_eq_zero hn
    subst this
    exact ⟨Heap.le_refl _, Ow.nil _ _ _⟩
  · have s : SlB h (.slice (some a) l.length c) l := .inr ⟨a, c, rfl, hc, hcl⟩
    simp -implicitDefEqProofs only [zB1,zB2,zB3,zB4,zB5,zB6,zB7,zB8,zB9,zB10,zB11,y00,y01,y02,y03,y04,y05,y06,y07,y08,y09,y0a,y0b,y0c,y0d,y0e,y0f,y0g,y0h,y0i,y0j,y0k,y0l,y0m,y0n,y0o,y0p,y0q,y0r,y0s,y0t,y0u,y0v,y0w,y0x,y0y,y0z,y10,y11,y12,y13,y14,y15,y16,y17,y18,y19,y1a,y1b,y1c,y1d,y1e,y1f,y1g,y1h,y1i,y1j,y1k,y1l,y1m,y1n,y1o,y1p,y1q,y1r,retO,retL,retV,z6i,allV,allP,z6j,z6m,z6n,z6t,z6u,z6v,binV,eqV,unV,oOpt,reduceIte,reduceCtorEq,Nat.reduceEqDiff,Nat.reduceAdd,Nat.reduceMul,Nat.reduceLT,Nat.reduceSub,Int.reduceLT,Int.reduceLE,Int.reduceEq,Int.reduceNe,Int.reduceSub,Int.reduceAdd,Int.reduceMul,Int.reduceBEq,Int.reduceBNe,Int.reduceGT,Int.reduceGE,Nat.reduceGT,Int.reduceToNat,Int.reduceNeg,Nat.reduceLeDiff,Nat.reduceBEq,Nat.reduceBneDiff,Value.cells, Option.isNone]
    intro b1 hb1
    try simp -implicitDefEqProofs only [zB1,zB2,zB3,zB4,zB5,zB6,zB7,zB8,zB9,zB10,zB11,y00,y01,y02,y03,y04,y05,y06,y07,y08,y09,y0a,y0b,y0c,y0d,y0e,y0f,y0g,y0h,y0i,y0j,y0k,y0l,y0m,y0n,y0o,y0p,y0q,y0r,y0s,y0t,y0u,y0v,y0w,y0x,y0y,y0z,y10,y11,y12,y13,y14,y15,y16,y17,y18,y19,y1a,y1b,y1c,y1d,y1e,y1f,y1g,y1h,y1i,y1j,y1k,y1l,y1m,y1n,y1o,y1p,y1q,y1r,retO,retL,retV,z6i,allV,allP,z6j,z6m,z6n,z6t,z6u,z6v,binV,eqV,unV,oOpt,reduceIte,reduceCtorEq,Nat.reduceEqDiff,Nat.reduceAdd,Nat.reduceMul,Nat.reduceLT,Nat.reduceSub,Int.reduceLT,Int.reduceLE,Int.reduceEq,Int.reduceNe,Int.reduceSub,Int.reduceAdd,Int.reduceMul,Int.reduceBEq,Int.reduceBNe,Int.reduceGT,Int.reduceGE,Nat.reduceGT,Int.reduceToNat,Int.reduceNeg,Nat.reduceLeDiff,Nat.reduceBEq,Nat.reduceBneDiff,Value.cells]
    refine appendP_ow (bytes := 1) (n := 0) (cells := []) (m := l.length) (news := l.map u8V) (Heap.le_set (Heap.le_refl _) hb1 _) (by omega) (Ow.new (Heap.le_refl _) hb1 rfl (by omega) (by omega)) (s.le (Heap.le_set (Heap.le_refl _) hb1 _)) (one_u8 l) (by omega) (by omega) ?_
    intro v' h' ow le'
    rw [Nat.zero_add, List.nil_append] at ow
    simp -implicitDefEqProofs only [zB1,zB2,zB3,zB4,zB5,zB6,zB7,zB8,zB9,zB10,zB11,y00,y01,y02,y03,y04,y05,y06,y07,y08,y09,y0a,y0b,y0c,y0d,y0e,y0f,y0g,y0h,y0i,y0j,y0k,y0l,y0m,y0n,y0o,y0p,y0q,y0r,y0s,y0t,y0u,y0v,y0w,y0x,y0y,y0z,y10,y11,y12,y13,y14,y15,y16,y17,y18,y19,y1a,y1b,y1c,y1d,y1e,y1f,y1g,y1h,y1i,y1j,y1k,y1l,y1m,y1n,y1o,y1p,y1q,y1r,retO,retL,retV,z6i,allV,allP,z6j,z6m,z6n,z6t,z6u,z6v,binV,eqV,unV,oOpt,reduceIte,reduceCtorEq,Nat.reduceEqDiff,Nat.reduceAdd,Nat.reduceMul,Nat.reduceLT,Nat.reduceSub,Int.reduceLT,Int.reduceLE,Int.reduceEq,Int.reduceNe,Int.reduceSub,Int.reduceAdd,Int.reduceMul,Int.reduceBEq,Int.reduceBNe,Int.reduceGT,Int.reduceGE,Nat.reduceGT,Int.reduceToNat,Int.reduceNeg,Nat.reduceLeDiff,Nat.reduceBEq,Nat.reduceBneDiff,Value.cells]
    exact ⟨le', ow⟩

/-! ### numbers, the highest byte first -/
end Go.Bb
/- Contracts: slices of bytes joined. -/
namespace Go.Bb
set_option linter.unusedSimpArgs false
set_option linter.unusedVariables false
set_option maxRecDepth 20000

theorem Ow.head {h0 h : Heap} {size n c : Nat} {base : Option Addr} {cells : List Value} (s : Ow h0 h size (.slice base n c) n cells) {k : Nat} (hk : k ≤ n) : Ow h0 h size (.slice base k c) k (cells.take (k * size)) := by
  have hm : k * size ≤ n * size := Nat.mul_le_mul_right _ hk
  rcases s with ⟨e, rfl, rfl⟩ | ⟨b, o, c', sz, st, pre, rest, e, hc, hn, hb, ho, hl, hz⟩
  · simp only [Value.slice.injEq] at e
    obtain ⟨rfl, _, rfl⟩ := e
    have : k = 0 := by omega
    subst this
    exact .inl ⟨rfl, rfl, by simp⟩
  · simp only [Value.slice.injEq] at e
    obtain ⟨rfl, _, rfl⟩ := e
    refine .inr ⟨b, o, c, sz, st, pre, cells.drop (k * size) ++ rest, rfl, by omega, hn, ?_, ho, by rw [List.length_take]; omega, hz⟩
    rw [hb, List.append_assoc pre, List.append_assoc pre, ← List.append_assoc (cells.take _), List.take_append_drop]
theorem appendZP_ow {size bytes n m : Nat} {z : List Value} {h0 h : Heap} {v : Value} {cells : List Value} {k : IntKind} {K : Value → Heap → Prop} (hle : h0.le h) (hsz : 0 < size) (s : Ow h0 h size v n cells) (hz : z.length = size) (h1 : z.all one = true)
    (hb : (n + m) * bytes ≤ 140737488355328) (hm : n + m ≤ 9223372036854775807)
    (hk : ∀ v h', Ow h0 h' size v (n + m) (cells ++ (List.replicate m z).flatten) → h0.le h' → K v h') : appendZP size bytes z h v (.int k (m : Int)) K := by
  obtain ⟨base, c, rfl⟩ : ∃ base c, v = .slice base n c := by
    rcases s with ⟨rfl, rfl, _⟩ | ⟨b, o, c, sz, _, _, _, rfl, _⟩
    · exact ⟨_, _, rfl⟩
    · exact ⟨_, _, rfl⟩
  simp only [appendZP, Int.toNat_natCast]
  have hmb : m * bytes ≤ (n + m) * bytes := Nat.mul_le_mul_right _ (by omega)
  refine ⟨by omega, by omega, ?_, append_ow hle hsz s (by simp [hz]) (fun u hu => ?_) hb hm hk⟩
  · rw [← Int.natCast_mul]; omega
  · obtain ⟨l, hl, hu⟩ := List.mem_flatten.1 hu
    rw [List.eq_of_mem_replicate hl] at hu
    exact List.all_eq_true.1 h1 u hu

theorem Grow_c (E : EnvT tab) (h : Heap) (n : Nat) (hn : n ≤ 100000000) : ACallN E.toEnv n_slices_Grow_byte_byte [.slice none 0 0, .int .i64 n] h fun r h' => h.le h' ∧ OwB h h' r [] := by
  refine acall h_slices_Grow_byte_byte ir_slices_Grow_byte_byte rfl rfl (wpA_sound ?_)
  unfold ir_slices_Grow_byte_byte
  have n0 : ¬ (n : Int) < 0 := by omega
  have w0 : IntKind.i64.wrap 0 = 0 := by decide
  have w1 : IntKind.i64.wrap ((n : Int) - 0) = (n : Int) := by rw [wrapI (by omega) (by omega)]; omega
  by_cases hz : n = 0
  · subst hz
    simp -implicitDefEqProofs only [zB1,zB2,zB3,zB4,zB5,zB6,zB7,zB8,zB9,zB10,zB11,y00,y01,y02,y03,y04,y05,y06,y07,y08,y09,y0a,y0b,y0c,y0d,y0e,y0f,y0g,y0h,y0i,y0j,y0k,y0l,y0m,y0n,y0o,y0p,y0q,y0r,y0s,y0t,y0u,y0v,y0w,y0x,y0y,y0z,y10,y11,y12,y13,y14,y15,y16,y17,y18,y19,y1a,y1b,y1c,y1d,y1e,y1f,y1g,y1h,y1i,y1j,y1k,y1l,y1m,y1n,y1o,y1p,y1q,y1r,retO,retL,retV,z6i,allV,allP,z6j,z6m,z6n,z6t,z6u,z6v,binV,eqV,unV,oOpt,reduceIte,reduceCtorEq,Nat.reduceEqDiff,Nat.reduceAdd,Nat.reduceMul,Nat.reduceLT,Nat.reduceSub,Int.reduceLT,Int.reduceLE,Int.reduceEq,Int.reduceNe,Int.reduceSub,Int.reduceAdd,Int.reduceMul,Int.reduceBEq,Int.reduceBNe,Int.reduceGT,Int.reduceGE,Nat.reduceGT,Int.reduceToNat,Int.reduceNeg,Nat.reduceLeDiff,Nat.reduceBEq,Nat.reduceBneDiff,Value.cells, w0]
    exact ⟨Heap.le_refl _, Ow.nil _ _ _⟩
  · have g0 : (0 : Int) < n := by omega
    have bd : bnds 0 0 none (some (some (.int .i64 0))) none = some (0, 0, 0) := by decide
    simp -implicitDefEqProofs only [zB1,zB2,zB3,zB4,zB5,zB6,zB7,zB8,zB9,zB10,zB11,y00,y01,y02,y03,y04,y05,y06,y07,y08,y09,y0a,y0b,y0c,y0d,y0e,y0f,y0g,y0h,y0i,y0j,y0k,y0l,y0m,y0n,y0o,y0p,y0q,y0r,y0s,y0t,y0u,y0v,y0w,y0x,y0y,y0z,y10,y11,y12,y13,y14,y15,y16,y17,y18,y19,y1a,y1b,y1c,y1d,y1e,y1f,y1g,y1h,y1i,y1j,y1k,y1l,y1m,y1n,y1o,y1p,y1q,y1r,retO,retL,retV,z6i,allV,allP,z6j,z6m,z6n,z6t,z6u,z6v,binV,eqV,unV,oOpt,reduceIte,reduceCtorEq,Nat.reduceEqDiff,Nat.reduceAdd,Nat.reduceMul,Nat.reduceLT,Nat.reduceSub,Int.reduceLT,Int.reduceLE,Int.reduceEq,Int.reduceNe,Int.reduceSub,Int.reduceAdd,Int.reduceMul,Int.reduceBEq,Int.reduceBNe,Int.reduceGT,Int.reduceGE,Nat.reduceGT,Int.reduceToNat,Int.reduceNeg,Nat.reduceLeDiff,Nat.reduceBEq,Nat.reduceBneDiff,Value.cells, n0, w0, w1, g0, bd]
    refine appendZP_ow (n := 0) (m := n) (cells := []) (Heap.le_refl _) (by omega) (Ow.nil _ _ _) rfl rfl (by omega) (by omega) ?_
    intro v1 h1 ow1 le1
    rw [Nat.zero_add, List.nil_append] at ow1
    obtain ⟨b1, c1, rfl⟩ := Sl.shape ow1.sl
    have bd2 : bnds n c1 none (some (some (.int .i64 0))) none = some (0, 0, c1) := bnds_hi (by omega) (by omega)
    simp -implicitDefEqProofs only [zB1,zB2,zB3,zB4,zB5,zB6,zB7,zB8,zB9,zB10,zB11,y00,y01,y02,y03,y04,y05,y06,y07,y08,y09,y0a,y0b,y0c,y0d,y0e,y0f,y0g,y0h,y0i,y0j,y0k,y0l,y0m,y0n,y0o,y0p,y0q,y0r,y0s,y0t,y0u,y0v,y0w,y0x,y0y,y0z,y10,y11,y12,y13,y14,y15,y16,y17,y18,y19,y1a,y1b,y1c,y1d,y1e,y1f,y1g,y1h,y1i,y1j,y1k,y1l,y1m,y1n,y1o,y1p,y1q,y1r,retO,retL,retV,z6i,allV,allP,z6j,z6m,z6n,z6t,z6u,z6v,binV,eqV,unV,oOpt,reduceIte,reduceCtorEq,Nat.reduceEqDiff,Nat.reduceAdd,Nat.reduceMul,Nat.reduceLT,Nat.reduceSub,Int.reduceLT,Int.reduceLE,Int.reduceEq,Int.reduceNe,Int.reduceSub,Int.reduceAdd,Int.reduceMul,Int.reduceBEq,Int.reduceBNe,Int.reduceGT,Int.reduceGE,Nat.reduceGT,Int.reduceToNat,Int.reduceNeg,Nat.reduceLeDiff,Nat.reduceBEq,Nat.reduceBneDiff,Value.cells, bd2]
    rw [addO b1 c1 (fun a _ => addr_add0 a), Nat.sub_zero]
    have := ow1.head (k := 0) (by omega)
    rw [Nat.zero_mul, List.take_zero] at this
    exact ⟨le1, this⟩

theorem flat_len_take {L : List (List UInt8)} (i : Nat) : (L.take i).flatten.length ≤ L.flatten.length := by
  have : L.flatten = (L.take i).flatten ++ (L.drop i).flatten := by rw [← List.flatten_append, List.take_append_drop]
  rw [this, List.length_append]; omega
theorem Concat_c (E : EnvT tab) (h : Heap) {v : Value} (L : List (List UInt8)) (hl : L.length ≤ 100000) (ht : L.flatten.length ≤ 100000000) (s : SlL h v L) :
    ACallN E.toEnv n_slices_Concat_byte_byte [v] h fun r h' => h.le h' ∧ OwB h h' r L.flatten := by
  obtain ⟨vs, hvs, sl, el⟩ := s
  obtain ⟨base, c, rfl⟩ := Sl.shape sl
  refine acall h_slices_Concat_byte_byte ir_slices_Concat_byte_byte rfl rfl (wpA_sound ?_)
  unfold ir_slices_Concat_byte_byte
  simp -implicitDefEqProofs only [zB1,zB2,zB3,zB4,zB5,zB6,zB7,zB8,zB9,zB10,zB11,y00,y01,y02,y03,y04,y05,y06,y07,y08,y09,y0a,y0b,y0c,y0d,y0e,y0f,y0g,y0h,y0i,y0j,y0k,y0l,y0m,y0n,y0o,y0p,y0q,y0r,y0s,y0t,y0u,y0v,y0w,y0x,y0y,y0z,y10,y11,y12,y13,y14,y15,y16,y17,y18,y19,y1a,y1b,y1c,y1d,y1e,y1f,y1g,y1h,y1i,y1j,y1k,y1l,y1m,y1n,y1o,y1p,y1q,y1r,retO,retL,retV,z6i,allV,allP,z6j,z6m,z6n,z6t,z6u,z6v,binV,eqV,unV,oOpt,reduceIte,reduceCtorEq,Nat.reduceEqDiff,Nat.reduceAdd,Nat.reduceMul,Nat.reduceLT,Nat.reduceSub,Int.reduceLT,Int.reduceLE,Int.reduceEq,Int.reduceNe,Int.reduceSub,Int.reduceAdd,Int.reduceMul,Int.reduceBEq,Int.reduceBNe,Int.reduceGT,Int.reduceGE,Nat.reduceGT,Int.reduceToNat,Int.reduceNeg,Nat.reduceLeDiff,Nat.reduceBEq,Nat.reduceBneDiff,Value.cells]
  -- a part
  have part : ∀ i (hi : i < L.length) H, h.le H → ∃ b o, base = some ⟨b, o, none⟩ ∧ hcell H ⟨b, o + i, none⟩ = some (vs[i]'(by omega)) ∧ ∃ bi ci, vs[i]'(by omega) = .slice bi L[i].length ci := by
    intro i hi H hH
    obtain ⟨b, o, c', hv, hc, hcl⟩ := sl.ptr (by omega) (by omega)
    simp only [Value.slice.injEq, true_and] at hv
    obtain ⟨rfl, rfl⟩ := hv
    rw [Nat.mul_one] at hcl
    refine ⟨b, o, rfl, ?_, Sl.shape (el i (by omega) hi)⟩
    rw [hcell_of (hcells_le hH hcl) i hi]; simp [hvs, hi]
  have step : ∀ i (hi : i < L.length), (L.take (i + 1)).flatten = (L.take i).flatten ++ L[i] := fun i hi => by rw [List.take_succ_eq_append_getElem hi, List.flatten_append]; simp
  refine wp_loop' (fun m t H => H = h ∧ ∃ (i : Nat), t = tl [(0, .slice base L.length c), (3, .int .i64 ((L.take i).flatten.length : Nat)), (9, .slice base L.length c), (10, .int .i64 L.length), (11, .int .i64 i)] ∧ i ≤ L.length ∧ m = L.length - i) L.length
    ⟨rfl, 0, rfl, by omega, by omega⟩ ?_
  rintro m t H ⟨rfl, i, rfl, hi, rfl⟩
  by_cases hlt : i < L.length
  · have hi1 : (i : Int) < L.length := by omega
    have hi2 : (0 : Int) ≤ i := by omega
    have w1 : IntKind.i64.wrap ((i : Int) + 1) = ((i + 1 : Nat) : Int) := wrapN (by omega)
    obtain ⟨b, o, rfl, ci, bi, cci, ei⟩ := part i hlt H (Heap.le_refl _)
    have hf := flat_len_take (L := L) (i + 1)
    have hs := step i hlt
    rw [hs, List.length_append] at hf
    have w2 : IntKind.i64.wrap ((((L.take i).flatten.length : Nat) : Int) + ((L[i].length : Nat) : Int)) = (((L.take (i + 1)).flatten.length : Nat) : Int) := by rw [hs, List.length_append, wrapI (by omega) (by omega)]; omega
    have n2 : ¬ (((L.take (i + 1)).flatten.length : Nat) : Int) < 0 := by omega
    generalize hF : (L.take i).flatten.length = F at *
    generalize hF2 : (L.take (i + 1)).flatten.length = F2 at *
    rw [ei] at ci
    simp -implicitDefEqProofs only [zB1,zB2,zB3,zB4,zB5,zB6,zB7,zB8,zB9,zB10,zB11,y00,y01,y02,y03,y04,y05,y06,y07,y08,y09,y0a,y0b,y0c,y0d,y0e,y0f,y0g,y0h,y0i,y0j,y0k,y0l,y0m,y0n,y0o,y0p,y0q,y0r,y0s,y0t,y0u,y0v,y0w,y0x,y0y,y0z,y10,y11,y12,y13,y14,y15,y16,y17,y18,y19,y1a,y1b,y1c,y1d,y1e,y1f,y1g,y1h,y1i,y1j,y1k,y1l,y1m,y1n,y1o,y1p,y1q,y1r,retO,retL,retV,z6i,allV,allP,z6j,z6m,z6n,z6t,z6u,z6v,binV,eqV,unV,oOpt,reduceIte,reduceCtorEq,Nat.reduceEqDiff,Nat.reduceAdd,Nat.reduceMul,Nat.reduceLT,Nat.reduceSub,Int.reduceLT,Int.reduceLE,Int.reduceEq,Int.reduceNe,Int.reduceSub,Int.reduceAdd,Int.reduceMul,Int.reduceBEq,Int.reduceBNe,Int.reduceGT,Int.reduceGE,Nat.reduceGT,Int.reduceToNat,Int.reduceNeg,Nat.reduceLeDiff,Nat.reduceBEq,Nat.reduceBneDiff,Value.cells, hi1, hi2, Int.toNat_natCast, ci, w2, n2, w1]
    exact ⟨_, by omega, i + 1, by rw [hF2], by omega, rfl⟩
  · have hi1 : ¬ (i : Int) < L.length := by omega
    have : i = L.length := by omega
    subst this
    rw [List.take_length]
    generalize hFF : L.flatten.length = FF at *
    simp -implicitDefEqProofs only [zB1,zB2,zB3,zB4,zB5,zB6,zB7,zB8,zB9,zB10,zB11,y00,y01,y02,y03,y04,y05,y06,y07,y08,y09,y0a,y0b,y0c,y0d,y0e,y0f,y0g,y0h,y0i,y0j,y0k,y0l,y0m,y0n,y0o,y0p,y0q,y0r,y0s,y0t,y0u,y0v,y0w,y0x,y0y,y0z,y10,y11,y12,y13,y14,y15,y16,y17,y18,y19,y1a,y1b,y1c,y1d,y1e,y1f,y1g,y1h,y1i,y1j,y1k,y1l,y1m,y1n,y1o,y1p,y1q,y1r,retO,retL,retV,z6i,allV,allP,z6j,z6m,z6n,z6t,z6u,z6v,binV,eqV,unV,oOpt,reduceIte,reduceCtorEq,Nat.reduceEqDiff,Nat.reduceAdd,Nat.reduceMul,Nat.reduceLT,Nat.reduceSub,Int.reduceLT,Int.reduceLE,Int.reduceEq,Int.reduceNe,Int.reduceSub,Int.reduceAdd,Int.reduceMul,Int.reduceBEq,Int.reduceBNe,Int.reduceGT,Int.reduceGE,Nat.reduceGT,Int.reduceToNat,Int.reduceNeg,Nat.reduceLeDiff,Nat.reduceBEq,Nat.reduceBneDiff,Value.cells, hi1]
    refine (Grow_c E H FF (by omega)).mono ?_
    rintro r h1 ⟨le1, ow1⟩
    simp -implicitDefEqProofs only [zB1,zB2,zB3,zB4,zB5,zB6,zB7,zB8,zB9,zB10,zB11,y00,y01,y02,y03,y04,y05,y06,y07,y08,y09,y0a,y0b,y0c,y0d,y0e,y0f,y0g,y0h,y0i,y0j,y0k,y0l,y0m,y0n,y0o,y0p,y0q,y0r,y0s,y0t,y0u,y0v,y0w,y0x,y0y,y0z,y10,y11,y12,y13,y14,y15,y16,y17,y18,y19,y1a,y1b,y1c,y1d,y1e,y1f,y1g,y1h,y1i,y1j,y1k,y1l,y1m,y1n,y1o,y1p,y1q,y1r,retO,retL,retV,z6i,allV,allP,z6j,z6m,z6n,z6t,z6u,z6v,binV,eqV,unV,oOpt,reduceIte,reduceCtorEq,Nat.reduceEqDiff,Nat.reduceAdd,Nat.reduceMul,Nat.reduceLT,Nat.reduceSub,Int.reduceLT,Int.reduceLE,Int.reduceEq,Int.reduceNe,Int.reduceSub,Int.reduceAdd,Int.reduceMul,Int.reduceBEq,Int.reduceBNe,Int.reduceGT,Int.reduceGE,Nat.reduceGT,Int.reduceToNat,Int.reduceNeg,Nat.reduceLeDiff,Nat.reduceBEq,Nat.reduceBneDiff,Value.cells]
    refine wp_loop' (fun m t H' => H.le H' ∧ ∃ (i : Nat) (v6 : Value), t = tl [(6, v6), (25, .slice base L.length c), (26, .int .i64 L.length), (27, .int .i64 i)] ∧ i ≤ L.length ∧ m = L.length - i ∧ OwB H H' v6 (L.take i).flatten) L.length
      ⟨le1, 0, r, rfl, by omega, by omega, by rw [List.take_zero]; exact ow1⟩ ?_
    rintro m t H' ⟨leH, i, v6, rfl, hi, rfl, ow⟩
    by_cases hlt : i < L.length
    · have hi1 : (i : Int) < L.length := by omega
      have hi2 : (0 : Int) ≤ i := by omega
      have w1 : IntKind.i64.wrap ((i : Int) + 1) = ((i + 1 : Nat) : Int) := wrapN (by omega)
      obtain ⟨b, o, rfl, ci, bi, cci, ei⟩ := part i hlt H' leH
      have si := (el i (by omega) hlt).le leH
      have hf := flat_len_take (L := L) (i + 1)
      have hs := step i hlt
      rw [hs, List.length_append] at hf
      simp -implicitDefEqProofs only [zB1,zB2,zB3,zB4,zB5,zB6,zB7,zB8,zB9,zB10,zB11,y00,y01,y02,y03,y04,y05,y06,y07,y08,y09,y0a,y0b,y0c,y0d,y0e,y0f,y0g,y0h,y0i,y0j,y0k,y0l,y0m,y0n,y0o,y0p,y0q,y0r,y0s,y0t,y0u,y0v,y0w,y0x,y0y,y0z,y10,y11,y12,y13,y14,y15,y16,y17,y18,y19,y1a,y1b,y1c,y1d,y1e,y1f,y1g,y1h,y1i,y1j,y1k,y1l,y1m,y1n,y1o,y1p,y1q,y1r,retO,retL,retV,z6i,allV,allP,z6j,z6m,z6n,z6t,z6u,z6v,binV,eqV,unV,oOpt,reduceIte,reduceCtorEq,Nat.reduceEqDiff,Nat.reduceAdd,Nat.reduceMul,Nat.reduceLT,Nat.reduceSub,Int.reduceLT,Int.reduceLE,Int.reduceEq,Int.reduceNe,Int.reduceSub,Int.reduceAdd,Int.reduceMul,Int.reduceBEq,Int.reduceBNe,Int.reduceGT,Int.reduceGE,Nat.reduceGT,Int.reduceToNat,Int.reduceNeg,Nat.reduceLeDiff,Nat.reduceBEq,Nat.reduceBneDiff,Value.cells, hi1, hi2, Int.toNat_natCast, ci]
      refine appendP_ow (bytes := 1) (m := L[i].length) (news := L[i].map u8V) leH (by omega) ow si (one_u8 _) (by omega) (by omega) ?_
      intro v7 h7 ow7 le7
      simp -implicitDefEqProofs only [zB1,zB2,zB3,zB4,zB5,zB6,zB7,zB8,zB9,zB10,zB11,y00,y01,y02,y03,y04,y05,y06,y07,y08,y09,y0a,y0b,y0c,y0d,y0e,y0f,y0g,y0h,y0i,y0j,y0k,y0l,y0m,y0n,y0o,y0p,y0q,y0r,y0s,y0t,y0u,y0v,y0w,y0x,y0y,y0z,y10,y11,y12,y13,y14,y15,y16,y17,y18,y19,y1a,y1b,y1c,y1d,y1e,y1f,y1g,y1h,y1i,y1j,y1k,y1l,y1m,y1n,y1o,y1p,y1q,y1r,retO,retL,retV,z6i,allV,allP,z6j,z6m,z6n,z6t,z6u,z6v,binV,eqV,unV,oOpt,reduceIte,reduceCtorEq,Nat.reduceEqDiff,Nat.reduceAdd,Nat.reduceMul,Nat.reduceLT,Nat.reduceSub,Int.reduceLT,Int.reduceLE,Int.reduceEq,Int.reduceNe,Int.reduceSub,Int.reduceAdd,Int.reduceMul,Int.reduceBEq,Int.reduceBNe,Int.reduceGT,Int.reduceGE,Nat.reduceGT,Int.reduceToNat,Int.reduceNeg,Nat.reduceLeDiff,Nat.reduceBEq,Nat.reduceBneDiff,Value.cells, w1]
      refine ⟨L.length - (i + 1), by omega, le7, i + 1, v7, rfl, by omega, rfl, ?_⟩
      rw [hs]
      unfold OwB
      rw [List.length_append, List.map_append]
      exact ow7
    · have hi1 : ¬ (i : Int) < L.length := by omega
      have : i = L.length := by omega
      subst this
      rw [List.take_length] at ow
      simp -implicitDefEqProofs only [zB1,zB2,zB3,zB4,zB5,zB6,zB7,zB8,zB9,zB10,zB11,y00,y01,y02,y03,y04,y05,y06,y07,y08,y09,y0a,y0b,y0c,y0d,y0e,y0f,y0g,y0h,y0i,y0j,y0k,y0l,y0m,y0n,y0o,y0p,y0q,y0r,y0s,y0t,y0u,y0v,y0w,y0x,y0y,y0z,y10,y11,y12,y13,y14,y15,y16,y17,y18,y19,y1a,y1b,y1c,y1d,y1e,y1f,y1g,y1h,y1i,y1j,y1k,y1l,y1m,y1n,y1o,y1p,y1q,y1r,retO,retL,retV,z6i,allV,allP,z6j,z6m,z6n,z6t,z6u,z6v,binV,eqV,unV,oOpt,reduceIte,reduceCtorEq,Nat.reduceEqDiff,Nat.reduceAdd,Nat.reduceMul,Nat.reduceLT,Nat.reduceSub,Int.reduceLT,Int.reduceLE,Int.reduceEq,Int.reduceNe,Int.reduceSub,Int.reduceAdd,Int.reduceMul,Int.reduceBEq,Int.reduceBNe,Int.reduceGT,Int.reduceGE,Nat.reduceGT,Int.reduceToNat,Int.reduceNeg,Nat.reduceLeDiff,Nat.reduceBEq,Nat.reduceBneDiff,Value.cells, hi1]
      exact ⟨leH, ow⟩
end Go.Bb
/- Contracts: a disk's file. -/
namespace Go.Bb
set_option linter.unusedSimpArgs false
set_option linter.unusedVariables false
set_option maxRecDepth 20000
set_option maxHeartbeats 2000000

abbrev ptrV (f : Nat) : Value := .pointer (some ⟨f, 0, none⟩)
/-- A file at its place, with its values. -/
def FileV (κ : Pal) (H : Heap) (d f : Nat) (F : FileF) (vs vw : Value) (ws : List Value) : Prop :=
  κ f = some (d, f, 0) ∧ H f = some (.own 0 [vs, vw] 2) ∧ OwK κ (d, f, 1) H 1 vs F.safe.length (F.safe.map u8V) ∧ OwK κ (d, f, 2) H 1 vw F.writes.length ws ∧ ws.length = F.writes.length ∧ ∀ i (h1 : i < ws.length) (h2 : i < F.writes.length), OwK κ (d, f, 3) H 1 ws[i] F.writes[i].length (F.writes[i].map u8V)
/-- A file at its place. -/
def FileR (κ : Pal) (H : Heap) (d f : Nat) (F : FileF) : Prop := ∃ vs vw ws, FileV κ H d f F vs vw ws
def fileC (d f : Nat) : Col → Prop := fun c => c.1 = d ∧ c.2.1 = f ∧ c.2.2 < 4
theorem FileV.ext {cs : Col → Prop} {κ κ' : Pal} {H H' : Heap} {d f : Nat} {F : FileF} {vs vw : Value} {ws : List Value} (a : Ext cs κ H κ' H') (n : ∀ r, r < 4 → ¬ cs (d, f, r)) (R : FileV κ H d f F vs vw ws) : FileV κ' H' d f F vs vw ws := by
  obtain ⟨k, q, s1, s2, l, s3⟩ := R
  obtain ⟨g1, g2⟩ := a.blk k (n 0 (by omega)) q
  exact ⟨g2, g1, a.own (n 1 (by omega)) s1, a.own (n 2 (by omega)) s2, l, fun i h1 h2 => a.own (n 3 (by omega)) (s3 i h1 h2)⟩
theorem FileR.ext {cs : Col → Prop} {κ κ' : Pal} {H H' : Heap} {d f : Nat} {F : FileF} (a : Ext cs κ H κ' H') (n : ∀ r, r < 4 → ¬ cs (d, f, r)) (R : FileR κ H d f F) : FileR κ' H' d f F := by
  obtain ⟨vs, vw, ws, R⟩ := R
  exact ⟨vs, vw, ws, R.ext a n⟩
theorem FileR.le {κ : Pal} {H H' : Heap} {d f : Nat} {F : FileF} (h : H.le H') (R : FileR κ H d f F) : FileR κ H' d f F := R.ext (Ext.le (cs := fun _ => False) h) (fun _ _ q => q)
def FileF.ok (F : FileF) : Prop := F.writes.length ≤ 100000 ∧ F.all.length ≤ 100000000
theorem FileF.ok.safe {F : FileF} (h : F.ok) : F.safe.length ≤ 100000000 := by have := h.2; unfold FileF.all at this; rw [List.length_append] at this; omega
theorem FileF.ok.flat {F : FileF} (h : F.ok) : F.writes.flatten.length ≤ 100000000 := by have := h.2; unfold FileF.all at this; rw [List.length_append] at this; omega

theorem file_all_c (E : EnvT tab) {κ : Pal} {H : Heap} {d f : Nat} {F : FileF} (R : FileR κ H d f F) (ok : F.ok) :
    ACallN E.toEnv n_disk_file_all [ptrV f] H fun r H' => H.le H' ∧ OwB H H' r F.all := by
  obtain ⟨vs, vw, ws, k, q, s1, s2, l, s3⟩ := R
  refine acall h_disk_file_all ir_disk_file_all rfl rfl (wpA_sound ?_)
  unfold ir_disk_file_all
  have c0 : ∀ G, H.le G → hcell G ⟨f, 0, none⟩ = some vs := fun G x => by rw [hcell_at (x _ _ q) (by simp)]; rfl
  have c1 : ∀ G, H.le G → hcell G ⟨f, 1, none⟩ = some vw := fun G x => by rw [hcell_at (x _ _ q) (by simp)]; rfl
  have c00 := c0 H (Heap.le_refl _)
  have c10 := c1 H (Heap.le_refl _)
  have hs := ok.safe
  have hf := ok.flat
  have hw := ok.1
  simp -implicitDefEqProofs only [zB1,zB2,zB3,zB4,zB5,zB6,zB7,zB8,zB9,zB10,zB11,y00,y01,y02,y03,y04,y05,y06,y07,y08,y09,y0a,y0b,y0c,y0d,y0e,y0f,y0g,y0h,y0i,y0j,y0k,y0l,y0m,y0n,y0o,y0p,y0q,y0r,y0s,y0t,y0u,y0v,y0w,y0x,y0y,y0z,y10,y11,y12,y13,y14,y15,y16,y17,y18,y19,y1a,y1b,y1c,y1d,y1e,y1f,y1g,y1h,y1i,y1j,y1k,y1l,y1m,y1n,y1o,y1p,y1q,y1r,retO,retL,retV,z6i,allV,allP,z6j,z6m,z6n,z6t,z6u,z6v,binV,eqV,unV,oOpt,reduceIte,reduceCtorEq,Nat.reduceEqDiff,Nat.reduceAdd,Nat.reduceMul,Nat.reduceLT,Nat.reduceSub,Int.reduceLT,Int.reduceLE,Int.reduceEq,Int.reduceNe,Int.reduceSub,Int.reduceAdd,Int.reduceMul,Int.reduceBEq,Int.reduceBNe,Int.reduceGT,Int.reduceGE,Nat.reduceGT,Int.reduceToNat,Int.reduceNeg,Nat.reduceLeDiff,Nat.reduceBEq,Nat.reduceBneDiff,Value.cells, c00]
  refine (Clone_c E H F.safe (by omega) s1.sl).mono ?_
  rintro r1 H1 ⟨le1, o1⟩
  have c11 := c1 H1 le1
  simp -implicitDefEqProofs only [zB1,zB2,zB3,zB4,zB5,zB6,zB7,zB8,zB9,zB10,zB11,y00,y01,y02,y03,y04,y05,y06,y07,y08,y09,y0a,y0b,y0c,y0d,y0e,y0f,y0g,y0h,y0i,y0j,y0k,y0l,y0m,y0n,y0o,y0p,y0q,y0r,y0s,y0t,y0u,y0v,y0w,y0x,y0y,y0z,y10,y11,y12,y13,y14,y15,y16,y17,y18,y19,y1a,y1b,y1c,y1d,y1e,y1f,y1g,y1h,y1i,y1j,y1k,y1l,y1m,y1n,y1o,y1p,y1q,y1r,retO,retL,retV,z6i,allV,allP,z6j,z6m,z6n,z6t,z6u,z6v,binV,eqV,unV,oOpt,reduceIte,reduceCtorEq,Nat.reduceEqDiff,Nat.reduceAdd,Nat.reduceMul,Nat.reduceLT,Nat.reduceSub,Int.reduceLT,Int.reduceLE,Int.reduceEq,Int.reduceNe,Int.reduceSub,Int.reduceAdd,Int.reduceMul,Int.reduceBEq,Int.reduceBNe,Int.reduceGT,Int.reduceGE,Nat.reduceGT,Int.reduceToNat,Int.reduceNeg,Nat.reduceLeDiff,Nat.reduceBEq,Nat.reduceBneDiff,Value.cells, c10, c11, implies_true, List.mem_cons, List.not_mem_nil, List.mem_singleton, or_false, forall_eq, forall_eq_or_imp, and_self]
  have sL : SlL H1 vw F.writes := ⟨ws, l, s2.sl.le le1, fun i h1 h2 => (s3 i h1 h2).sl.le le1⟩
  refine (Concat_c E H1 F.writes hw hf sL).mono ?_
  rintro r2 H2 ⟨le2, o2⟩
  obtain ⟨b1, cc1, rfl⟩ := Sl.shape o1.sl
  obtain ⟨b2, cc2, rfl⟩ := Sl.shape o2.sl
  simp -implicitDefEqProofs only [zB1,zB2,zB3,zB4,zB5,zB6,zB7,zB8,zB9,zB10,zB11,y00,y01,y02,y03,y04,y05,y06,y07,y08,y09,y0a,y0b,y0c,y0d,y0e,y0f,y0g,y0h,y0i,y0j,y0k,y0l,y0m,y0n,y0o,y0p,y0q,y0r,y0s,y0t,y0u,y0v,y0w,y0x,y0y,y0z,y10,y11,y12,y13,y14,y15,y16,y17,y18,y19,y1a,y1b,y1c,y1d,y1e,y1f,y1g,y1h,y1i,y1j,y1k,y1l,y1m,y1n,y1o,y1p,y1q,y1r,retO,retL,retV,z6i,allV,allP,z6j,z6m,z6n,z6t,z6u,z6v,binV,eqV,unV,oOpt,reduceIte,reduceCtorEq,Nat.reduceEqDiff,Nat.reduceAdd,Nat.reduceMul,Nat.reduceLT,Nat.reduceSub,Int.reduceLT,Int.reduceLE,Int.reduceEq,Int.reduceNe,Int.reduceSub,Int.reduceAdd,Int.reduceMul,Int.reduceBEq,Int.reduceBNe,Int.reduceGT,Int.reduceGE,Nat.reduceGT,Int.reduceToNat,Int.reduceNeg,Nat.reduceLeDiff,Nat.reduceBEq,Nat.reduceBneDiff,Value.cells]
  refine appendP_ow (Heap.le_trans le1 le2) (by omega) (o1.le le2) o2.sl (one_u8 _) (by omega) (by omega) ?_
  intro v h' o3 le3
  simp -implicitDefEqProofs only [zB1,zB2,zB3,zB4,zB5,zB6,zB7,zB8,zB9,zB10,zB11,y00,y01,y02,y03,y04,y05,y06,y07,y08,y09,y0a,y0b,y0c,y0d,y0e,y0f,y0g,y0h,y0i,y0j,y0k,y0l,y0m,y0n,y0o,y0p,y0q,y0r,y0s,y0t,y0u,y0v,y0w,y0x,y0y,y0z,y10,y11,y12,y13,y14,y15,y16,y17,y18,y19,y1a,y1b,y1c,y1d,y1e,y1f,y1g,y1h,y1i,y1j,y1k,y1l,y1m,y1n,y1o,y1p,y1q,y1r,retO,retL,retV,z6i,allV,allP,z6j,z6m,z6n,z6t,z6u,z6v,binV,eqV,unV,oOpt,reduceIte,reduceCtorEq,Nat.reduceEqDiff,Nat.reduceAdd,Nat.reduceMul,Nat.reduceLT,Nat.reduceSub,Int.reduceLT,Int.reduceLE,Int.reduceEq,Int.reduceNe,Int.reduceSub,Int.reduceAdd,Int.reduceMul,Int.reduceBEq,Int.reduceBNe,Int.reduceGT,Int.reduceGE,Nat.reduceGT,Int.reduceToNat,Int.reduceNeg,Nat.reduceLeDiff,Nat.reduceBEq,Nat.reduceBneDiff,Value.cells]
  refine ⟨le3, ?_⟩
  unfold FileF.all OwB
  rw [List.length_append, List.map_append]
  exact o3
theorem file_sync_c (E : EnvT tab) {κ : Pal} {H : Heap} {d f : Nat} {F : FileF} (R : FileR κ H d f F) (ok : F.ok) :
    ACallN E.toEnv n_disk_file_sync [ptrV f] H fun r H' => ∃ κ', Ext (fileC d f) κ H κ' H' ∧ FileR κ' H' d f F.sync := by
  have R0 := R
  obtain ⟨vs, vw, ws, k, q, s1, s2, l, s3⟩ := R
  refine acall h_disk_file_sync ir_disk_file_sync rfl rfl (wpA_sound ?_)
  unfold ir_disk_file_sync
  simp -implicitDefEqProofs only [zB1,zB2,zB3,zB4,zB5,zB6,zB7,zB8,zB9,zB10,zB11,y00,y01,y02,y03,y04,y05,y06,y07,y08,y09,y0a,y0b,y0c,y0d,y0e,y0f,y0g,y0h,y0i,y0j,y0k,y0l,y0m,y0n,y0o,y0p,y0q,y0r,y0s,y0t,y0u,y0v,y0w,y0x,y0y,y0z,y10,y11,y12,y13,y14,y15,y16,y17,y18,y19,y1a,y1b,y1c,y1d,y1e,y1f,y1g,y1h,y1i,y1j,y1k,y1l,y1m,y1n,y1o,y1p,y1q,y1r,retO,retL,retV,z6i,allV,allP,z6j,z6m,z6n,z6t,z6u,z6v,binV,eqV,unV,oOpt,reduceIte,reduceCtorEq,Nat.reduceEqDiff,Nat.reduceAdd,Nat.reduceMul,Nat.reduceLT,Nat.reduceSub,Int.reduceLT,Int.reduceLE,Int.reduceEq,Int.reduceNe,Int.reduceSub,Int.reduceAdd,Int.reduceMul,Int.reduceBEq,Int.reduceBNe,Int.reduceGT,Int.reduceGE,Nat.reduceGT,Int.reduceToNat,Int.reduceNeg,Nat.reduceLeDiff,Nat.reduceBEq,Nat.reduceBneDiff,Value.cells]
  refine (file_all_c E R0 ok).mono ?_
  rintro r1 H1 ⟨le1, o1⟩
  have q1 := le1 _ _ q
  obtain ⟨b1, cc1, rfl⟩ := Sl.shape o1.sl
  have st1 : storeV H1 1 (.pointer (some ⟨f, 0, none⟩)) (.slice b1 F.all.length cc1) = some (H1.set f (.own 0 [.slice b1 F.all.length cc1, vw] 2)) := storeV_one_at q1 rfl (by simp) (by simp)
  have st2 : ∀ x, storeV (H1.set f (.own 0 [x, vw] 2)) 1 (.pointer (some ⟨f, 1, none⟩)) (.slice none 0 0) = some ((H1.set f (.own 0 [x, vw] 2)).set f (.own 0 [x, .slice none 0 0] 2)) := fun x => storeV_one_at (Heap.set_self _ _ _) rfl (by simp) (by simp)
  simp -implicitDefEqProofs only [zB1,zB2,zB3,zB4,zB5,zB6,zB7,zB8,zB9,zB10,zB11,y00,y01,y02,y03,y04,y05,y06,y07,y08,y09,y0a,y0b,y0c,y0d,y0e,y0f,y0g,y0h,y0i,y0j,y0k,y0l,y0m,y0n,y0o,y0p,y0q,y0r,y0s,y0t,y0u,y0v,y0w,y0x,y0y,y0z,y10,y11,y12,y13,y14,y15,y16,y17,y18,y19,y1a,y1b,y1c,y1d,y1e,y1f,y1g,y1h,y1i,y1j,y1k,y1l,y1m,y1n,y1o,y1p,y1q,y1r,retO,retL,retV,z6i,allV,allP,z6j,z6m,z6n,z6t,z6u,z6v,binV,eqV,unV,oOpt,reduceIte,reduceCtorEq,Nat.reduceEqDiff,Nat.reduceAdd,Nat.reduceMul,Nat.reduceLT,Nat.reduceSub,Int.reduceLT,Int.reduceLE,Int.reduceEq,Int.reduceNe,Int.reduceSub,Int.reduceAdd,Int.reduceMul,Int.reduceBEq,Int.reduceBNe,Int.reduceGT,Int.reduceGE,Nat.reduceGT,Int.reduceToNat,Int.reduceNeg,Nat.reduceLeDiff,Nat.reduceBEq,Nat.reduceBneDiff,Value.cells, st1, st2]
  have e1 : Ext (fun _ => False) κ H (κ.grow H (d, f, 1)) H1 := Ext.tint le1
  have k1 := (e1.blk k (fun q => q) q).2
  have e2 := Ext.set (H := H1) k1 (.own 0 [.slice b1 F.all.length cc1, .slice none 0 0] 2)
  have o1' : OwK (κ.grow H (d, f, 1)) (d, f, 1) H1 1 (.slice b1 F.all.length cc1) F.all.length (F.all.map u8V) := OwK.tinted o1
  refine ⟨κ.grow H (d, f, 1), (e1.mono fun c h => h.elim).trans (e2.mono fun c h => by subst h; exact ⟨rfl, rfl, Nat.zero_lt_succ _⟩), _, _, [], k1, Heap.set_self _ _ _, e2.own (by simp) o1', Ow.nil _ _ _, rfl, fun i h1 h2 => by simp at h1⟩
theorem file_size_c (E : EnvT tab) {κ : Pal} {H : Heap} {d f : Nat} {F : FileF} (R : FileR κ H d f F) (ok : F.ok) :
    ACallN E.toEnv n_disk_file_size [ptrV f] H fun r H' => H' = H ∧ r = .int .i64 (F.size : Nat) := by
  obtain ⟨vs, vw, ws, k, q, s1, s2, l, s3⟩ := R
  refine acall h_disk_file_size ir_disk_file_size rfl rfl (wpA_sound ?_)
  unfold ir_disk_file_size
  have c0 : hcell H ⟨f, 0, none⟩ = some vs := by rw [hcell_at q (by simp)]; rfl
  have c1 : hcell H ⟨f, 1, none⟩ = some vw := by rw [hcell_at q (by simp)]; rfl
  obtain ⟨bs, cs, rfl⟩ := Sl.shape s1.sl
  have hs := ok.safe
  have hf := ok.flat
  have hw := ok.1
  have sw := s2.sl
  obtain ⟨bw, cw, rfl⟩ := Sl.shape sw
  simp -implicitDefEqProofs only [zB1,zB2,zB3,zB4,zB5,zB6,zB7,zB8,zB9,zB10,zB11,y00,y01,y02,y03,y04,y05,y06,y07,y08,y09,y0a,y0b,y0c,y0d,y0e,y0f,y0g,y0h,y0i,y0j,y0k,y0l,y0m,y0n,y0o,y0p,y0q,y0r,y0s,y0t,y0u,y0v,y0w,y0x,y0y,y0z,y10,y11,y12,y13,y14,y15,y16,y17,y18,y19,y1a,y1b,y1c,y1d,y1e,y1f,y1g,y1h,y1i,y1j,y1k,y1l,y1m,y1n,y1o,y1p,y1q,y1r,retO,retL,retV,z6i,allV,allP,z6j,z6m,z6n,z6t,z6u,z6v,binV,eqV,unV,oOpt,reduceIte,reduceCtorEq,Nat.reduceEqDiff,Nat.reduceAdd,Nat.reduceMul,Nat.reduceLT,Nat.reduceSub,Int.reduceLT,Int.reduceLE,Int.reduceEq,Int.reduceNe,Int.reduceSub,Int.reduceAdd,Int.reduceMul,Int.reduceBEq,Int.reduceBNe,Int.reduceGT,Int.reduceGE,Nat.reduceGT,Int.reduceToNat,Int.reduceNeg,Nat.reduceLeDiff,Nat.reduceBEq,Nat.reduceBneDiff,Value.cells, c0]
  unfold ir_disk_file_size_6
  simp -implicitDefEqProofs only [zB1,zB2,zB3,zB4,zB5,zB6,zB7,zB8,zB9,zB10,zB11,y00,y01,y02,y03,y04,y05,y06,y07,y08,y09,y0a,y0b,y0c,y0d,y0e,y0f,y0g,y0h,y0i,y0j,y0k,y0l,y0m,y0n,y0o,y0p,y0q,y0r,y0s,y0t,y0u,y0v,y0w,y0x,y0y,y0z,y10,y11,y12,y13,y14,y15,y16,y17,y18,y19,y1a,y1b,y1c,y1d,y1e,y1f,y1g,y1h,y1i,y1j,y1k,y1l,y1m,y1n,y1o,y1p,y1q,y1r,retO,retL,retV,z6i,allV,allP,z6j,z6m,z6n,z6t,z6u,z6v,binV,eqV,unV,oOpt,reduceIte,reduceCtorEq,Nat.reduceEqDiff,Nat.reduceAdd,Nat.reduceMul,Nat.reduceLT,Nat.reduceSub,Int.reduceLT,Int.reduceLE,Int.reduceEq,Int.reduceNe,Int.reduceSub,Int.reduceAdd,Int.reduceMul,Int.reduceBEq,Int.reduceBNe,Int.reduceGT,Int.reduceGE,Nat.reduceGT,Int.reduceToNat,Int.reduceNeg,Nat.reduceLeDiff,Nat.reduceBEq,Nat.reduceBneDiff,Value.cells, c0, c1]
  refine wp_loop' (fun m t G => G = H ∧ ∃ i : Nat, t = tl [(3, .int .i64 (F.safe.length + (F.writes.take i).flatten.length : Nat)), (14, .slice bw F.writes.length cw), (15, .int .i64 F.writes.length), (16, .int .i64 i)] ∧ i ≤ F.writes.length ∧ m = F.writes.length - i) F.writes.length
    ⟨rfl, 0, by simp, by omega, by omega⟩ ?_
  rintro m t G ⟨rfl, i, rfl, hi, rfl⟩
  by_cases hlt : i < F.writes.length
  · have hi1 : (i : Int) < F.writes.length := by omega
    have hi2 : (0 : Int) ≤ i := by omega
    have w1 : IntKind.i64.wrap ((i : Int) + 1) = ((i + 1 : Nat) : Int) := wrapN (by omega)
    obtain ⟨b, o, c', hv, hc, hcl⟩ := sw.ptr (by omega) (by omega)
    simp only [Value.slice.injEq, true_and] at hv
    obtain ⟨rfl, rfl⟩ := hv
    rw [Nat.mul_one] at hcl
    have ci := hcell_of hcl i hlt
    have si := (s3 i (by omega) hlt).sl
    obtain ⟨bi, cci, ei⟩ := Sl.shape si
    rw [List.getElem?_eq_getElem (by omega), ei] at ci
    have et : (F.writes.take (i + 1)).flatten.length = (F.writes.take i).flatten.length + F.writes[i].length := by
      rw [List.take_succ_eq_append_getElem hlt, List.flatten_append, List.length_append, List.flatten_singleton]
    have lt : (F.writes.take (i + 1)).flatten.length ≤ F.writes.flatten.length := by
      conv => rhs; rw [← List.take_append_drop (i + 1) F.writes]
      rw [List.flatten_append, List.length_append]; omega
    have w2 : IntKind.i64.wrap (((F.safe.length + (F.writes.take i).flatten.length : Nat) : Int) + (F.writes[i].length : Nat)) = ((F.safe.length + (F.writes.take (i + 1)).flatten.length : Nat) : Int) := by
      rw [wrapI (by omega) (by omega), et]; omega
    simp -implicitDefEqProofs only [zB1,zB2,zB3,zB4,zB5,zB6,zB7,zB8,zB9,zB10,zB11,y00,y01,y02,y03,y04,y05,y06,y07,y08,y09,y0a,y0b,y0c,y0d,y0e,y0f,y0g,y0h,y0i,y0j,y0k,y0l,y0m,y0n,y0o,y0p,y0q,y0r,y0s,y0t,y0u,y0v,y0w,y0x,y0y,y0z,y10,y11,y12,y13,y14,y15,y16,y17,y18,y19,y1a,y1b,y1c,y1d,y1e,y1f,y1g,y1h,y1i,y1j,y1k,y1l,y1m,y1n,y1o,y1p,y1q,y1r,retO,retL,retV,z6i,allV,allP,z6j,z6m,z6n,z6t,z6u,z6v,binV,eqV,unV,oOpt,reduceIte,reduceCtorEq,Nat.reduceEqDiff,Nat.reduceAdd,Nat.reduceMul,Nat.reduceLT,Nat.reduceSub,Int.reduceLT,Int.reduceLE,Int.reduceEq,Int.reduceNe,Int.reduceSub,Int.reduceAdd,Int.reduceMul,Int.reduceBEq,Int.reduceBNe,Int.reduceGT,Int.reduceGE,Nat.reduceGT,Int.reduceToNat,Int.reduceNeg,Nat.reduceLeDiff,Nat.reduceBEq,Nat.reduceBneDiff,Value.cells, hi1, hi2, Int.toNat_natCast, ci, w1, w2]
    refine ⟨_, ?_, i + 1, rfl, by omega, rfl⟩
    omega
  · have hi1 : ¬ (i : Int) < F.writes.length := by omega
    have e : i = F.writes.length := by omega
    subst e
    simp -implicitDefEqProofs only [zB1,zB2,zB3,zB4,zB5,zB6,zB7,zB8,zB9,zB10,zB11,y00,y01,y02,y03,y04,y05,y06,y07,y08,y09,y0a,y0b,y0c,y0d,y0e,y0f,y0g,y0h,y0i,y0j,y0k,y0l,y0m,y0n,y0o,y0p,y0q,y0r,y0s,y0t,y0u,y0v,y0w,y0x,y0y,y0z,y10,y11,y12,y13,y14,y15,y16,y17,y18,y19,y1a,y1b,y1c,y1d,y1e,y1f,y1g,y1h,y1i,y1j,y1k,y1l,y1m,y1n,y1o,y1p,y1q,y1r,retO,retL,retV,z6i,allV,allP,z6j,z6m,z6n,z6t,z6u,z6v,binV,eqV,unV,oOpt,reduceIte,reduceCtorEq,Nat.reduceEqDiff,Nat.reduceAdd,Nat.reduceMul,Nat.reduceLT,Nat.reduceSub,Int.reduceLT,Int.reduceLE,Int.reduceEq,Int.reduceNe,Int.reduceSub,Int.reduceAdd,Int.reduceMul,Int.reduceBEq,Int.reduceBNe,Int.reduceGT,Int.reduceGE,Nat.reduceGT,Int.reduceToNat,Int.reduceNeg,Nat.reduceLeDiff,Nat.reduceBEq,Nat.reduceBneDiff,Value.cells, hi1]
    unfold FileF.size FileF.all
    rw [List.take_length, List.length_append]
/-- What is appended to the safe bytes. -/
theorem file_grow {κ : Pal} {G : Heap} {d f : Nat} {F : FileF} {vs vw xv : Value} {ws : List Value} {l : List UInt8} {K : Value → Heap → Prop} (R : FileV κ G d f F vs vw ws) (x : SlB G xv l) (hb : F.safe.length + l.length ≤ 1000000000)
    (hk : ∀ v G', G' f = some (.own 0 [vs, vw] 2) → (∃ base c, v = .slice base (F.safe.length + l.length) c) → (∃ κ', Ext (fileC d f) κ G κ' (G'.set f (.own 0 [v, vw] 2)) ∧ FileV κ' (G'.set f (.own 0 [v, vw] 2)) d f ⟨F.safe ++ l, F.writes⟩ v vw ws) → K v G') : appendP 1 1 G vs xv K := by
  obtain ⟨k, q, s1, s2, hl, s3⟩ := R
  refine appendP_ow (Heap.but_le G κ (d, f, 1)) (by omega) s1 x (one_u8 _) (by omega) (by omega) ?_
  intro v G' o le
  have e1 := Ext.grow le
  obtain ⟨q', k'⟩ := e1.blk k (by simp) q
  have e2 := Ext.set (H := G') k' (.own 0 [v, vw] 2)
  refine hk v G' q' (Sl.shape o.sl) ⟨κ.grow G (d, f, 1), (e1.mono fun c h => by subst h; exact ⟨rfl, rfl, (by omega : (1 : Nat) < 4)⟩).trans (e2.mono fun c h => by subst h; exact ⟨rfl, rfl, Nat.zero_lt_succ _⟩), k', Heap.set_self _ _ _, ?_, e2.own (by simp) (e1.own (by simp) s2), hl, fun i h1 h2 => e2.own (by simp) (e1.own (by simp) (s3 i h1 h2))⟩
  refine e2.own (by simp) ?_
  have := OwK.grown o
  simp only [List.length_append, List.map_append]
  exact this
end Go.Bb
/- Contracts: a file that falls. -/
namespace Go.Bb
set_option linter.unusedSimpArgs false
set_option linter.unusedVariables false
set_option maxRecDepth 20000
set_option maxHeartbeats 2000000

theorem stays_bit (keep : U64) (m : Nat) (hm : m ≤ 63) : ((keep >>> m) &&& 1#64 == 1#64) = keep.getLsbD m := by
  rw [Bool.eq_iff_iff, beq_iff_eq]
  constructor
  · intro e
    have := congrArg (fun x => x.getLsbD 0) e
    simpa using this
  · intro e
    apply BitVec.eq_of_getLsbD_eq
    intro i hi
    by_cases h0 : i = 0
    · subst h0; simpa using e
    · simp [h0, BitVec.getLsbD_one]
theorem stays_int (keep : U64) (m : Nat) (hm : m ≤ 63) : (IntKind.u64.wrap ((BitVec.ofInt IntKind.u64.bits ((keep.toNat : Int).fdiv (2 ^ min m IntKind.u64.bits)) &&& BitVec.ofInt IntKind.u64.bits 1).toNat : Int) == (1 : Int)) = keep.getLsbD m := by
  have e1 : (1 : Int) = ((1#64).toNat : Int) := rfl
  rw [u64_shr keep m (by omega), e1, u64_and, ← stays_bit keep m hm, Bool.eq_iff_iff, beq_iff_eq, beq_iff_eq]
  constructor
  · intro h; exact BitVec.eq_of_toNat_eq (by omega)
  · intro h; rw [h]
theorem stays_c (E : EnvT tab) {H : Heap} {b : Nat} {keep : U64} (q : H b = some (.own 0 [.int .u64 keep.toNat] 1)) (i : Nat) (hi : i ≤ 4611686018427387904) :
    ACallN E.toEnv n_disk_file_crash_1 [.int .i64 i, ptrV b] H fun r H' => H' = H ∧ r = .bool (staysF keep i) := by
  refine acall h_disk_file_crash_1 ir_disk_file_crash_1 rfl rfl (wpA_sound ?_)
  unfold ir_disk_file_crash_1
  have c0 : hcell H ⟨b, 0, none⟩ = some (.int .u64 keep.toNat) := by rw [hcell_at q (by simp)]; rfl
  unfold staysF
  by_cases h63 : (63 : Int) < i
  · have e : min i 63 = 63 := by omega
    rw [e]
    simp -implicitDefEqProofs only [zB1,zB2,zB3,zB4,zB5,zB6,zB7,zB8,zB9,zB10,zB11,y00,y01,y02,y03,y04,y05,y06,y07,y08,y09,y0a,y0b,y0c,y0d,y0e,y0f,y0g,y0h,y0i,y0j,y0k,y0l,y0m,y0n,y0o,y0p,y0q,y0r,y0s,y0t,y0u,y0v,y0w,y0x,y0y,y0z,y10,y11,y12,y13,y14,y15,y16,y17,y18,y19,y1a,y1b,y1c,y1d,y1e,y1f,y1g,y1h,y1i,y1j,y1k,y1l,y1m,y1n,y1o,y1p,y1q,y1r,retO,retL,retV,z6i,allV,allP,z6j,z6m,z6n,z6t,z6u,z6v,binV,eqV,unV,oOpt,reduceIte,reduceCtorEq,Nat.reduceEqDiff,Nat.reduceAdd,Nat.reduceMul,Nat.reduceLT,Nat.reduceSub,Int.reduceLT,Int.reduceLE,Int.reduceEq,Int.reduceNe,Int.reduceSub,Int.reduceAdd,Int.reduceMul,Int.reduceBEq,Int.reduceBNe,Int.reduceGT,Int.reduceGE,Nat.reduceGT,Int.reduceToNat,Int.reduceNeg,Nat.reduceLeDiff,Nat.reduceBEq,Nat.reduceBneDiff,Value.cells, c0, h63]
    rw [stays_int keep 63 (by omega)]
  · have e : min i 63 = i := by omega
    have h0 : ¬ (i : Int) < 0 := by omega
    rw [e]
    simp -implicitDefEqProofs only [zB1,zB2,zB3,zB4,zB5,zB6,zB7,zB8,zB9,zB10,zB11,y00,y01,y02,y03,y04,y05,y06,y07,y08,y09,y0a,y0b,y0c,y0d,y0e,y0f,y0g,y0h,y0i,y0j,y0k,y0l,y0m,y0n,y0o,y0p,y0q,y0r,y0s,y0t,y0u,y0v,y0w,y0x,y0y,y0z,y10,y11,y12,y13,y14,y15,y16,y17,y18,y19,y1a,y1b,y1c,y1d,y1e,y1f,y1g,y1h,y1i,y1j,y1k,y1l,y1m,y1n,y1o,y1p,y1q,y1r,retO,retL,retV,z6i,allV,allP,z6j,z6m,z6n,z6t,z6u,z6v,binV,eqV,unV,oOpt,reduceIte,reduceCtorEq,Nat.reduceEqDiff,Nat.reduceAdd,Nat.reduceMul,Nat.reduceLT,Nat.reduceSub,Int.reduceLT,Int.reduceLE,Int.reduceEq,Int.reduceNe,Int.reduceSub,Int.reduceAdd,Int.reduceMul,Int.reduceBEq,Int.reduceBNe,Int.reduceGT,Int.reduceGE,Nat.reduceGT,Int.reduceToNat,Int.reduceNeg,Nat.reduceLeDiff,Nat.reduceBEq,Nat.reduceBneDiff,Value.cells, c0, h63, h0, Int.toNat_natCast]
    rw [stays_int keep i (by omega)]
theorem callvP_fn {E : Env} {n : Nat} {g : FuncId} {first cap vs : List Value} {h : Heap} {K : Value → Heap → Prop} (hg : E.fid n = some g) (a : ACallN E n (first ++ vs ++ cap) h K) : callvP E h K (.func (.func g) first.toArray cap.toArray) vs :=
  ⟨⟨n, hg⟩, by simpa using a g hg⟩
theorem lastF_le (keep : U64) : ∀ n, lastF keep n ≤ n
  | 0 => Nat.le_refl _
  | n + 1 => by
    unfold lastF
    split
    · omega
    · exact Nat.le_succ_of_le (lastF_le keep n)
theorem leftF_len (keep : U64) (torn : Int) (l i : Nat) (w : List UInt8) : (leftF keep torn l i w).length ≤ w.length := by
  unfold leftF
  split
  · split
    · rw [List.length_take]; omega
    · omega
  · simp
theorem keptF_succ (keep : U64) (torn : Int) (l : Nat) (W : List (List UInt8)) (n : Nat) : keptF keep torn l W (n + 1) = keptF keep torn l W n ++ leftF keep torn l n (W.getD n []) := by
  unfold keptF
  rw [List.range_succ, List.flatMap_append, List.flatMap_singleton]
theorem keptF_len (keep : U64) (torn : Int) (l : Nat) (W : List (List UInt8)) : ∀ n, n ≤ W.length → (keptF keep torn l W n).length ≤ (W.take n).flatten.length
  | 0, _ => by simp [keptF]
  | n + 1, h => by
    have h1 := keptF_len keep torn l W n (by omega)
    have h2 := leftF_len keep torn l n W[n]
    have e : W.getD n [] = W[n] := by simp [List.getD, List.getElem?_eq_getElem (show n < W.length by omega)]
    rw [keptF_succ, List.length_append, e, List.take_succ_eq_append_getElem (by omega), List.flatten_append, List.length_append, List.flatten_singleton]
    omega
theorem take_flat_len (W : List (List UInt8)) (n : Nat) : (W.take n).flatten.length ≤ W.flatten.length := by
  conv => rhs; rw [← List.take_append_drop n W]
  rw [List.flatten_append, List.length_append]; omega

theorem Sl.cap {h : Heap} {size n c : Nat} {base : Option Addr} {cells : List Value} (s : Sl h size (.slice base n c) n cells) : n ≤ c := by
  rcases s with ⟨e, _, _⟩ | ⟨a, c', e, h2, _⟩
  · simp only [Value.slice.injEq] at e; omega
  · simp only [Value.slice.injEq, true_and] at e; omega
theorem file_crash_c (E : EnvT tab) {κ : Pal} {H : Heap} {d f : Nat} {F : FileF} (R : FileR κ H d f F) (ok : F.ok) (keep : U64) (torn : Int) :
    ACallN E.toEnv n_disk_file_crash [ptrV f, .int .u64 keep.toNat, .int .i64 torn] H fun r H' => ∃ κ', Ext (fileC d f) κ H κ' H' ∧ FileR κ' H' d f (F.crash keep torn) := by
  obtain ⟨g, hg⟩ := E.full n_disk_file_crash_1 rfl
  have hg : E.toEnv.fid 75 = some g := hg
  refine acall h_disk_file_crash ir_disk_file_crash rfl rfl (wpA_sound ?_)
  unfold ir_disk_file_crash
  simp -implicitDefEqProofs only [zB1,zB2,zB3,zB4,zB5,zB6,zB7,zB8,zB9,zB10,zB11,y00,y01,y02,y03,y04,y05,y06,y07,y08,y09,y0a,y0b,y0c,y0d,y0e,y0f,y0g,y0h,y0i,y0j,y0k,y0l,y0m,y0n,y0o,y0p,y0q,y0r,y0s,y0t,y0u,y0v,y0w,y0x,y0y,y0z,y10,y11,y12,y13,y14,y15,y16,y17,y18,y19,y1a,y1b,y1c,y1d,y1e,y1f,y1g,y1h,y1i,y1j,y1k,y1l,y1m,y1n,y1o,y1p,y1q,y1r,retO,retL,retV,z6i,allV,allP,z6j,z6m,z6n,z6t,z6u,z6v,binV,eqV,unV,oOpt,reduceIte,reduceCtorEq,Nat.reduceEqDiff,Nat.reduceAdd,Nat.reduceMul,Nat.reduceLT,Nat.reduceSub,Int.reduceLT,Int.reduceLE,Int.reduceEq,Int.reduceNe,Int.reduceSub,Int.reduceAdd,Int.reduceMul,Int.reduceBEq,Int.reduceBNe,Int.reduceGT,Int.reduceGE,Nat.reduceGT,Int.reduceToNat,Int.reduceNeg,Nat.reduceLeDiff,Nat.reduceBEq,Nat.reduceBneDiff,Value.cells]
  intro b4 hb4
  try simp -implicitDefEqProofs only [zB1,zB2,zB3,zB4,zB5,zB6,zB7,zB8,zB9,zB10,zB11,y00,y01,y02,y03,y04,y05,y06,y07,y08,y09,y0a,y0b,y0c,y0d,y0e,y0f,y0g,y0h,y0i,y0j,y0k,y0l,y0m,y0n,y0o,y0p,y0q,y0r,y0s,y0t,y0u,y0v,y0w,y0x,y0y,y0z,y10,y11,y12,y13,y14,y15,y16,y17,y18,y19,y1a,y1b,y1c,y1d,y1e,y1f,y1g,y1h,y1i,y1j,y1k,y1l,y1m,y1n,y1o,y1p,y1q,y1r,retO,retL,retV,z6i,allV,allP,z6j,z6m,z6n,z6t,z6u,z6v,binV,eqV,unV,oOpt,reduceIte,reduceCtorEq,Nat.reduceEqDiff,Nat.reduceAdd,Nat.reduceMul,Nat.reduceLT,Nat.reduceSub,Int.reduceLT,Int.reduceLE,Int.reduceEq,Int.reduceNe,Int.reduceSub,Int.reduceAdd,Int.reduceMul,Int.reduceBEq,Int.reduceBNe,Int.reduceGT,Int.reduceGE,Nat.reduceGT,Int.reduceToNat,Int.reduceNeg,Nat.reduceLeDiff,Nat.reduceBEq,Nat.reduceBneDiff,Value.cells]
  have e0 : Ext (fileC d f) κ H (fun i => if i = b4 then none else κ i) (H.set b4 (.own 0 [.int .u64 keep.toNat] 1)) := Ext.new hb4 _ none
  have e0' : Ext (fun _ => False) κ H (fun i => if i = b4 then none else κ i) (H.set b4 (.own 0 [.int .u64 keep.toNat] 1)) := Ext.new hb4 _ none
  have kb : (fun i => if i = b4 then none else κ i) b4 = none := by simp
  have qb : (H.set b4 (.own 0 [.int .u64 keep.toNat] 1)) b4 = some (.own 0 [.int .u64 keep.toNat] 1) := Heap.set_self _ _ _
  replace R := R.ext e0' (fun _ _ q => q)
  clear e0'
  generalize (H.set b4 (.own 0 [.int .u64 keep.toNat] 1)) = H1 at e0 qb R ⊢
  generalize (fun i => if i = b4 then none else κ i) = κ1 at e0 kb R
  obtain ⟨vs, vw, ws, R⟩ := R
  have R0 := R
  obtain ⟨k, q, s1, s2, hl, s3⟩ := R
  have c1 : hcell H1 ⟨f, 1, none⟩ = some vw := by rw [hcell_at q (by simp)]; rfl
  have sw := s2.sl
  obtain ⟨bw, cw, rfl⟩ := Sl.shape sw
  have hs := ok.safe
  have hf := ok.flat
  have hw := ok.1
  simp -implicitDefEqProofs only [zB1,zB2,zB3,zB4,zB5,zB6,zB7,zB8,zB9,zB10,zB11,y00,y01,y02,y03,y04,y05,y06,y07,y08,y09,y0a,y0b,y0c,y0d,y0e,y0f,y0g,y0h,y0i,y0j,y0k,y0l,y0m,y0n,y0o,y0p,y0q,y0r,y0s,y0t,y0u,y0v,y0w,y0x,y0y,y0z,y10,y11,y12,y13,y14,y15,y16,y17,y18,y19,y1a,y1b,y1c,y1d,y1e,y1f,y1g,y1h,y1i,y1j,y1k,y1l,y1m,y1n,y1o,y1p,y1q,y1r,retO,retL,retV,z6i,allV,allP,z6j,z6m,z6n,z6t,z6u,z6v,binV,eqV,unV,oOpt,reduceIte,reduceCtorEq,Nat.reduceEqDiff,Nat.reduceAdd,Nat.reduceMul,Nat.reduceLT,Nat.reduceSub,Int.reduceLT,Int.reduceLE,Int.reduceEq,Int.reduceNe,Int.reduceSub,Int.reduceAdd,Int.reduceMul,Int.reduceBEq,Int.reduceBNe,Int.reduceGT,Int.reduceGE,Nat.reduceGT,Int.reduceToNat,Int.reduceNeg,Nat.reduceLeDiff,Nat.reduceBEq,Nat.reduceBneDiff,Value.cells, hg, c1]
  refine wp_loop' (fun m t G => G = H1 ∧ ∃ i : Nat, t = tl [(0, ptrV f), (2, .int .i64 torn), (6, .int .i64 ((lastF keep i : Int) - 1)), (7, .func (.func g) [].toArray [ptrV b4].toArray), (16, .int .i64 F.writes.length), (17, .int .i64 i)] ∧ i ≤ F.writes.length ∧ m = F.writes.length - i) F.writes.length
    ⟨rfl, 0, rfl, by omega, by omega⟩ ?_
  rintro m t G0 ⟨rfl, i, rfl, hi, rfl⟩
  by_cases hlt : i < F.writes.length
  · have hi1 : (i : Int) < F.writes.length := by omega
    have w1 : IntKind.i64.wrap ((i : Int) + 1) = ((i + 1 : Nat) : Int) := wrapN (by omega)
    simp -implicitDefEqProofs only [zB1,zB2,zB3,zB4,zB5,zB6,zB7,zB8,zB9,zB10,zB11,y00,y01,y02,y03,y04,y05,y06,y07,y08,y09,y0a,y0b,y0c,y0d,y0e,y0f,y0g,y0h,y0i,y0j,y0k,y0l,y0m,y0n,y0o,y0p,y0q,y0r,y0s,y0t,y0u,y0v,y0w,y0x,y0y,y0z,y10,y11,y12,y13,y14,y15,y16,y17,y18,y19,y1a,y1b,y1c,y1d,y1e,y1f,y1g,y1h,y1i,y1j,y1k,y1l,y1m,y1n,y1o,y1p,y1q,y1r,retO,retL,retV,z6i,allV,allP,z6j,z6m,z6n,z6t,z6u,z6v,binV,eqV,unV,oOpt,reduceIte,reduceCtorEq,Nat.reduceEqDiff,Nat.reduceAdd,Nat.reduceMul,Nat.reduceLT,Nat.reduceSub,Int.reduceLT,Int.reduceLE,Int.reduceEq,Int.reduceNe,Int.reduceSub,Int.reduceAdd,Int.reduceMul,Int.reduceBEq,Int.reduceBNe,Int.reduceGT,Int.reduceGE,Nat.reduceGT,Int.reduceToNat,Int.reduceNeg,Nat.reduceLeDiff,Nat.reduceBEq,Nat.reduceBneDiff,Value.cells, hi1]
    refine callvP_fn (first := []) (cap := [ptrV b4]) (vs := [.int .i64 i]) hg ?_
    refine (stays_c E qb i (by omega)).mono ?_
    rintro r G1 ⟨rfl, rfl⟩
    by_cases st : staysF keep i = true
    · have e : lastF keep (i + 1) = i + 1 := by rw [lastF, if_pos st]
      simp -implicitDefEqProofs only [zB1,zB2,zB3,zB4,zB5,zB6,zB7,zB8,zB9,zB10,zB11,y00,y01,y02,y03,y04,y05,y06,y07,y08,y09,y0a,y0b,y0c,y0d,y0e,y0f,y0g,y0h,y0i,y0j,y0k,y0l,y0m,y0n,y0o,y0p,y0q,y0r,y0s,y0t,y0u,y0v,y0w,y0x,y0y,y0z,y10,y11,y12,y13,y14,y15,y16,y17,y18,y19,y1a,y1b,y1c,y1d,y1e,y1f,y1g,y1h,y1i,y1j,y1k,y1l,y1m,y1n,y1o,y1p,y1q,y1r,retO,retL,retV,z6i,allV,allP,z6j,z6m,z6n,z6t,z6u,z6v,binV,eqV,unV,oOpt,reduceIte,reduceCtorEq,Nat.reduceEqDiff,Nat.reduceAdd,Nat.reduceMul,Nat.reduceLT,Nat.reduceSub,Int.reduceLT,Int.reduceLE,Int.reduceEq,Int.reduceNe,Int.reduceSub,Int.reduceAdd,Int.reduceMul,Int.reduceBEq,Int.reduceBNe,Int.reduceGT,Int.reduceGE,Nat.reduceGT,Int.reduceToNat,Int.reduceNeg,Nat.reduceLeDiff,Nat.reduceBEq,Nat.reduceBneDiff,Value.cells, st, w1]
      refine ⟨_, ?_, i + 1, ?_, by omega, rfl⟩
      · omega
      · have e2 : ((i + 1 : Nat) : Int) - 1 = i := by omega
        rw [e, e2]
    · have e : lastF keep (i + 1) = lastF keep i := by rw [lastF, if_neg st]
      simp -implicitDefEqProofs only [zB1,zB2,zB3,zB4,zB5,zB6,zB7,zB8,zB9,zB10,zB11,y00,y01,y02,y03,y04,y05,y06,y07,y08,y09,y0a,y0b,y0c,y0d,y0e,y0f,y0g,y0h,y0i,y0j,y0k,y0l,y0m,y0n,y0o,y0p,y0q,y0r,y0s,y0t,y0u,y0v,y0w,y0x,y0y,y0z,y10,y11,y12,y13,y14,y15,y16,y17,y18,y19,y1a,y1b,y1c,y1d,y1e,y1f,y1g,y1h,y1i,y1j,y1k,y1l,y1m,y1n,y1o,y1p,y1q,y1r,retO,retL,retV,z6i,allV,allP,z6j,z6m,z6n,z6t,z6u,z6v,binV,eqV,unV,oOpt,reduceIte,reduceCtorEq,Nat.reduceEqDiff,Nat.reduceAdd,Nat.reduceMul,Nat.reduceLT,Nat.reduceSub,Int.reduceLT,Int.reduceLE,Int.reduceEq,Int.reduceNe,Int.reduceSub,Int.reduceAdd,Int.reduceMul,Int.reduceBEq,Int.reduceBNe,Int.reduceGT,Int.reduceGE,Nat.reduceGT,Int.reduceToNat,Int.reduceNeg,Nat.reduceLeDiff,Nat.reduceBEq,Nat.reduceBneDiff,Value.cells, st, w1]
      refine ⟨_, ?_, i + 1, ?_, by omega, rfl⟩
      · omega
      · rw [e]
  have hi1 : ¬ (i : Int) < F.writes.length := by omega
  have e : i = F.writes.length := by omega
  subst e
  have ll := lastF_le keep F.writes.length
  have w1 : IntKind.i64.wrap ((lastF keep F.writes.length : Int) - 1 + 1) = ((lastF keep F.writes.length : Nat) : Int) := by rw [wrapI (by omega) (by omega)]; omega
  simp -implicitDefEqProofs only [zB1,zB2,zB3,zB4,zB5,zB6,zB7,zB8,zB9,zB10,zB11,y00,y01,y02,y03,y04,y05,y06,y07,y08,y09,y0a,y0b,y0c,y0d,y0e,y0f,y0g,y0h,y0i,y0j,y0k,y0l,y0m,y0n,y0o,y0p,y0q,y0r,y0s,y0t,y0u,y0v,y0w,y0x,y0y,y0z,y10,y11,y12,y13,y14,y15,y16,y17,y18,y19,y1a,y1b,y1c,y1d,y1e,y1f,y1g,y1h,y1i,y1j,y1k,y1l,y1m,y1n,y1o,y1p,y1q,y1r,retO,retL,retV,z6i,allV,allP,z6j,z6m,z6n,z6t,z6u,z6v,binV,eqV,unV,oOpt,reduceIte,reduceCtorEq,Nat.reduceEqDiff,Nat.reduceAdd,Nat.reduceMul,Nat.reduceLT,Nat.reduceSub,Int.reduceLT,Int.reduceLE,Int.reduceEq,Int.reduceNe,Int.reduceSub,Int.reduceAdd,Int.reduceMul,Int.reduceBEq,Int.reduceBNe,Int.reduceGT,Int.reduceGE,Nat.reduceGT,Int.reduceToNat,Int.reduceNeg,Nat.reduceLeDiff,Nat.reduceBEq,Nat.reduceBneDiff,Value.cells, hi1]
  unfold ir_disk_file_crash_25
  simp -implicitDefEqProofs only [zB1,zB2,zB3,zB4,zB5,zB6,zB7,zB8,zB9,zB10,zB11,y00,y01,y02,y03,y04,y05,y06,y07,y08,y09,y0a,y0b,y0c,y0d,y0e,y0f,y0g,y0h,y0i,y0j,y0k,y0l,y0m,y0n,y0o,y0p,y0q,y0r,y0s,y0t,y0u,y0v,y0w,y0x,y0y,y0z,y10,y11,y12,y13,y14,y15,y16,y17,y18,y19,y1a,y1b,y1c,y1d,y1e,y1f,y1g,y1h,y1i,y1j,y1k,y1l,y1m,y1n,y1o,y1p,y1q,y1r,retO,retL,retV,z6i,allV,allP,z6j,z6m,z6n,z6t,z6u,z6v,binV,eqV,unV,oOpt,reduceIte,reduceCtorEq,Nat.reduceEqDiff,Nat.reduceAdd,Nat.reduceMul,Nat.reduceLT,Nat.reduceSub,Int.reduceLT,Int.reduceLE,Int.reduceEq,Int.reduceNe,Int.reduceSub,Int.reduceAdd,Int.reduceMul,Int.reduceBEq,Int.reduceBNe,Int.reduceGT,Int.reduceGE,Nat.reduceGT,Int.reduceToNat,Int.reduceNeg,Nat.reduceLeDiff,Nat.reduceBEq,Nat.reduceBneDiff,Value.cells, w1]
  generalize hL : lastF keep F.writes.length = L at ll w1 ⊢
  refine wp_loop' (fun m t G => ∃ (i : Nat) (κ' : Pal) (vs' : Value), t = tl [(0, ptrV f), (2, .int .i64 torn), (6, .int .i64 ((L : Int) - 1)), (7, .func (.func g) [].toArray [ptrV b4].toArray), (26, .int .i64 L), (27, .int .i64 i)] ∧ i ≤ L ∧ m = L - i ∧
      Ext (fileC d f) κ1 G0 κ' G ∧ FileV κ' G d f ⟨F.safe ++ keptF keep torn L F.writes i, F.writes⟩ vs' (.slice bw F.writes.length cw) ws) L
    ⟨0, κ1, vs, rfl, by omega, by omega, Ext.refl _ _ _, by simpa [keptF] using R0⟩ ?_
  rintro m t G ⟨i, κ', vs', rfl, hi, rfl, eG, RG⟩
  have RG0 := RG
  obtain ⟨k', q', s1', s2', hl', s3'⟩ := RG
  have qbG := (eG.plain kb qb).1
  have st0 : ∀ (G' : Heap) (v : Value), one v = true → G' f = some (.own 0 [vs', .slice bw F.writes.length cw] 2) → storeV G' 1 (.pointer (some ⟨f, 0, none⟩)) v = some (G'.set f (.own 0 [v, .slice bw F.writes.length cw] 2)) := fun G' v ho q => storeV_one_at q ho (by simp) (by simp)
  by_cases hlt : i < L
  · have hi1 : (i : Int) < L := by omega
    have hi2 : (0 : Int) ≤ i := by omega
    have hi3 : (i : Int) < F.writes.length := by omega
    have hiw : i < F.writes.length := by omega
    have w2 : IntKind.i64.wrap ((i : Int) + 1) = ((i + 1 : Nat) : Int) := wrapN (by omega)
    have c1G : hcell G ⟨f, 1, none⟩ = some (.slice bw F.writes.length cw) := by rw [hcell_at q' (by simp)]; rfl
    have c0G : ∀ G2, G.le G2 → hcell G2 ⟨f, 0, none⟩ = some vs' := fun G2 x => by rw [hcell_at (x _ _ q') (by simp)]; rfl
    obtain ⟨b, o, c', hv, hc, hcl⟩ := s2'.sl.ptr (by simp; omega) (by omega)
    simp only [Value.slice.injEq, true_and] at hv
    obtain ⟨rfl, rfl⟩ := hv
    rw [Nat.mul_one] at hcl
    have ci := hcell_of hcl i hiw
    have si : SlB G ws[i] F.writes[i] := (s3' i (by omega) hiw).sl
    obtain ⟨bi, cci, ei⟩ := Sl.shape si
    rw [List.getElem?_eq_getElem (by omega), ei] at ci
    rw [ei] at si
    have hcap := Sl.cap si
    have eD : F.writes.getD i [] = F.writes[i] := by simp [List.getD, List.getElem?_eq_getElem hiw]
    have kl := keptF_len keep torn L F.writes i (by omega)
    have tl1 := take_flat_len F.writes i
    have tl2 := take_flat_len F.writes (i + 1)
    have tl3 : (F.writes.take (i + 1)).flatten.length = (F.writes.take i).flatten.length + F.writes[i].length := by
      rw [List.take_succ_eq_append_getElem hiw, List.flatten_append, List.length_append, List.flatten_singleton]
    have lf := leftF_len keep torn L i F.writes[i]
    have fin : ∀ (G2 : Heap) (xv : Value), G.le G2 → SlB G2 xv (leftF keep torn L i F.writes[i]) → ∀ K, (∀ v G', (∃ base c, v = .slice base (F.safe ++ keptF keep torn L F.writes (i + 1)).length c) → storeV G' 1 (.pointer (some ⟨f, 0, none⟩)) v = some (G'.set f (.own 0 [v, .slice (some ⟨b, o, none⟩) F.writes.length cw] 2)) → (∃ κ'', Ext (fileC d f) κ1 G0 κ'' (G'.set f (.own 0 [v, .slice (some ⟨b, o, none⟩) F.writes.length cw] 2)) ∧ FileV κ'' (G'.set f (.own 0 [v, .slice (some ⟨b, o, none⟩) F.writes.length cw] 2)) d f ⟨F.safe ++ keptF keep torn L F.writes (i + 1), F.writes⟩ v (.slice (some ⟨b, o, none⟩) F.writes.length cw) ws) → K v G') → appendP 1 1 G2 vs' xv K := by
      intro G2 xv le sx K hk
      refine file_grow (RG0.ext (Ext.le (cs := fun _ => False) le) (fun _ _ q => q)) sx (by simp only [List.length_append]; omega) ?_
      rintro v G' qf ⟨base, c, ev⟩ ⟨κ'', e2, R2⟩
      refine hk v G' ⟨base, c, ?_⟩ (st0 G' v (by rw [ev]; rfl) qf) ⟨κ'', (eG.trans (Ext.le le)).trans e2, ?_⟩
      · rw [ev, keptF_succ, eD]; simp only [List.length_append]; congr 1; omega
      · rw [keptF_succ, eD, ← List.append_assoc]; exact R2
    simp -implicitDefEqProofs only [zB1,zB2,zB3,zB4,zB5,zB6,zB7,zB8,zB9,zB10,zB11,y00,y01,y02,y03,y04,y05,y06,y07,y08,y09,y0a,y0b,y0c,y0d,y0e,y0f,y0g,y0h,y0i,y0j,y0k,y0l,y0m,y0n,y0o,y0p,y0q,y0r,y0s,y0t,y0u,y0v,y0w,y0x,y0y,y0z,y10,y11,y12,y13,y14,y15,y16,y17,y18,y19,y1a,y1b,y1c,y1d,y1e,y1f,y1g,y1h,y1i,y1j,y1k,y1l,y1m,y1n,y1o,y1p,y1q,y1r,retO,retL,retV,z6i,allV,allP,z6j,z6m,z6n,z6t,z6u,z6v,binV,eqV,unV,oOpt,reduceIte,reduceCtorEq,Nat.reduceEqDiff,Nat.reduceAdd,Nat.reduceMul,Nat.reduceLT,Nat.reduceSub,Int.reduceLT,Int.reduceLE,Int.reduceEq,Int.reduceNe,Int.reduceSub,Int.reduceAdd,Int.reduceMul,Int.reduceBEq,Int.reduceBNe,Int.reduceGT,Int.reduceGE,Nat.reduceGT,Int.reduceToNat,Int.reduceNeg,Nat.reduceLeDiff,Nat.reduceBEq,Nat.reduceBneDiff,Value.cells, hi1, hi2, hi3, c1G, Int.toNat_natCast, ci]
    unfold ir_disk_file_crash_29
    simp -implicitDefEqProofs only [zB1,zB2,zB3,zB4,zB5,zB6,zB7,zB8,zB9,zB10,zB11,y00,y01,y02,y03,y04,y05,y06,y07,y08,y09,y0a,y0b,y0c,y0d,y0e,y0f,y0g,y0h,y0i,y0j,y0k,y0l,y0m,y0n,y0o,y0p,y0q,y0r,y0s,y0t,y0u,y0v,y0w,y0x,y0y,y0z,y10,y11,y12,y13,y14,y15,y16,y17,y18,y19,y1a,y1b,y1c,y1d,y1e,y1f,y1g,y1h,y1i,y1j,y1k,y1l,y1m,y1n,y1o,y1p,y1q,y1r,retO,retL,retV,z6i,allV,allP,z6j,z6m,z6n,z6t,z6u,z6v,binV,eqV,unV,oOpt,reduceIte,reduceCtorEq,Nat.reduceEqDiff,Nat.reduceAdd,Nat.reduceMul,Nat.reduceLT,Nat.reduceSub,Int.reduceLT,Int.reduceLE,Int.reduceEq,Int.reduceNe,Int.reduceSub,Int.reduceAdd,Int.reduceMul,Int.reduceBEq,Int.reduceBNe,Int.reduceGT,Int.reduceGE,Nat.reduceGT,Int.reduceToNat,Int.reduceNeg,Nat.reduceLeDiff,Nat.reduceBEq,Nat.reduceBneDiff,Value.cells, hi1, hi2, hi3, c1G, Int.toNat_natCast, ci]
    refine callvP_fn (first := []) (cap := [ptrV b4]) (vs := [.int .i64 i]) hg ?_
    refine (stays_c E qbG i (by omega)).mono ?_
    rintro r G1 ⟨rfl, rfl⟩
    by_cases st : staysF keep i = true
    · simp -implicitDefEqProofs only [zB1,zB2,zB3,zB4,zB5,zB6,zB7,zB8,zB9,zB10,zB11,y00,y01,y02,y03,y04,y05,y06,y07,y08,y09,y0a,y0b,y0c,y0d,y0e,y0f,y0g,y0h,y0i,y0j,y0k,y0l,y0m,y0n,y0o,y0p,y0q,y0r,y0s,y0t,y0u,y0v,y0w,y0x,y0y,y0z,y10,y11,y12,y13,y14,y15,y16,y17,y18,y19,y1a,y1b,y1c,y1d,y1e,y1f,y1g,y1h,y1i,y1j,y1k,y1l,y1m,y1n,y1o,y1p,y1q,y1r,retO,retL,retV,z6i,allV,allP,z6j,z6m,z6n,z6t,z6u,z6v,binV,eqV,unV,oOpt,reduceIte,reduceCtorEq,Nat.reduceEqDiff,Nat.reduceAdd,Nat.reduceMul,Nat.reduceLT,Nat.reduceSub,Int.reduceLT,Int.reduceLE,Int.reduceEq,Int.reduceNe,Int.reduceSub,Int.reduceAdd,Int.reduceMul,Int.reduceBEq,Int.reduceBNe,Int.reduceGT,Int.reduceGE,Nat.reduceGT,Int.reduceToNat,Int.reduceNeg,Nat.reduceLeDiff,Nat.reduceBEq,Nat.reduceBneDiff,Value.cells, st]
      unfold ir_disk_file_crash_q
      by_cases hlast : (i : Int) = L - 1
      · have hlast' : i + 1 = L := by omega
        have hb : ((i : Int) == (L : Int) - 1) = true := by simp; omega
        clear hlast
        by_cases ht : 0 < torn
        · have w3 : IntKind.i64.wrap ((F.writes[i].length : Int) - if (F.writes[i].length : Int) < torn then (F.writes[i].length : Int) else torn) = ((F.writes[i].length - min torn.toNat F.writes[i].length : Nat) : Int) := by
            split
            · rw [wrapI (by omega) (by omega)]; omega
            · rw [wrapI (by omega) (by omega)]; omega
          have bd : bnds F.writes[i].length cci none (some (some (.int .i64 ((F.writes[i].length - min torn.toNat F.writes[i].length : Nat) : Int)))) none = some (0, F.writes[i].length - min torn.toNat F.writes[i].length, cci) := bnds_hi (by omega) (by omega)
          have c00 := c0G _ (Heap.le_refl _)
          have eL : leftF keep torn L i F.writes[i] = F.writes[i].take (F.writes[i].length - min torn.toNat F.writes[i].length) := by
            unfold leftF; rw [if_pos st, if_pos ⟨hlast', ht⟩]
          have sx := Sl.headB si (m := F.writes[i].length - min torn.toNat F.writes[i].length) (by omega)
          simp -implicitDefEqProofs only [zB1,zB2,zB3,zB4,zB5,zB6,zB7,zB8,zB9,zB10,zB11,y00,y01,y02,y03,y04,y05,y06,y07,y08,y09,y0a,y0b,y0c,y0d,y0e,y0f,y0g,y0h,y0i,y0j,y0k,y0l,y0m,y0n,y0o,y0p,y0q,y0r,y0s,y0t,y0u,y0v,y0w,y0x,y0y,y0z,y10,y11,y12,y13,y14,y15,y16,y17,y18,y19,y1a,y1b,y1c,y1d,y1e,y1f,y1g,y1h,y1i,y1j,y1k,y1l,y1m,y1n,y1o,y1p,y1q,y1r,retO,retL,retV,z6i,allV,allP,z6j,z6m,z6n,z6t,z6u,z6v,binV,eqV,unV,oOpt,reduceIte,reduceCtorEq,Nat.reduceEqDiff,Nat.reduceAdd,Nat.reduceMul,Nat.reduceLT,Nat.reduceSub,Int.reduceLT,Int.reduceLE,Int.reduceEq,Int.reduceNe,Int.reduceSub,Int.reduceAdd,Int.reduceMul,Int.reduceBEq,Int.reduceBNe,Int.reduceGT,Int.reduceGE,Nat.reduceGT,Int.reduceToNat,Int.reduceNeg,Nat.reduceLeDiff,Nat.reduceBEq,Nat.reduceBneDiff,Value.cells, st, hb, ht, w3, bd, addO bi cci (fun a _ => addr_add0 a), Nat.sub_zero, c00]
          refine fin _ _ (Heap.le_refl _) (by rw [eL]; exact sx) _ ?_
          rintro v G' ⟨base, c, rfl⟩ stv ⟨κ'', e2, R2⟩
          simp -implicitDefEqProofs only [zB1,zB2,zB3,zB4,zB5,zB6,zB7,zB8,zB9,zB10,zB11,y00,y01,y02,y03,y04,y05,y06,y07,y08,y09,y0a,y0b,y0c,y0d,y0e,y0f,y0g,y0h,y0i,y0j,y0k,y0l,y0m,y0n,y0o,y0p,y0q,y0r,y0s,y0t,y0u,y0v,y0w,y0x,y0y,y0z,y10,y11,y12,y13,y14,y15,y16,y17,y18,y19,y1a,y1b,y1c,y1d,y1e,y1f,y1g,y1h,y1i,y1j,y1k,y1l,y1m,y1n,y1o,y1p,y1q,y1r,retO,retL,retV,z6i,allV,allP,z6j,z6m,z6n,z6t,z6u,z6v,binV,eqV,unV,oOpt,reduceIte,reduceCtorEq,Nat.reduceEqDiff,Nat.reduceAdd,Nat.reduceMul,Nat.reduceLT,Nat.reduceSub,Int.reduceLT,Int.reduceLE,Int.reduceEq,Int.reduceNe,Int.reduceSub,Int.reduceAdd,Int.reduceMul,Int.reduceBEq,Int.reduceBNe,Int.reduceGT,Int.reduceGE,Nat.reduceGT,Int.reduceToNat,Int.reduceNeg,Nat.reduceLeDiff,Nat.reduceBEq,Nat.reduceBneDiff,Value.cells, stv, w2]
          exact ⟨L - (i + 1), by omega, i + 1, κ'', _, rfl, by omega, rfl, e2, R2⟩
        · have c00 := c0G _ (Heap.le_refl _)
          have eL : leftF keep torn L i F.writes[i] = F.writes[i] := by
            unfold leftF; rw [if_pos st, if_neg (fun h => ht h.2)]
          simp -implicitDefEqProofs only [zB1,zB2,zB3,zB4,zB5,zB6,zB7,zB8,zB9,zB10,zB11,y00,y01,y02,y03,y04,y05,y06,y07,y08,y09,y0a,y0b,y0c,y0d,y0e,y0f,y0g,y0h,y0i,y0j,y0k,y0l,y0m,y0n,y0o,y0p,y0q,y0r,y0s,y0t,y0u,y0v,y0w,y0x,y0y,y0z,y10,y11,y12,y13,y14,y15,y16,y17,y18,y19,y1a,y1b,y1c,y1d,y1e,y1f,y1g,y1h,y1i,y1j,y1k,y1l,y1m,y1n,y1o,y1p,y1q,y1r,retO,retL,retV,z6i,allV,allP,z6j,z6m,z6n,z6t,z6u,z6v,binV,eqV,unV,oOpt,reduceIte,reduceCtorEq,Nat.reduceEqDiff,Nat.reduceAdd,Nat.reduceMul,Nat.reduceLT,Nat.reduceSub,Int.reduceLT,Int.reduceLE,Int.reduceEq,Int.reduceNe,Int.reduceSub,Int.reduceAdd,Int.reduceMul,Int.reduceBEq,Int.reduceBNe,Int.reduceGT,Int.reduceGE,Nat.reduceGT,Int.reduceToNat,Int.reduceNeg,Nat.reduceLeDiff,Nat.reduceBEq,Nat.reduceBneDiff,Value.cells, st, hb, ht, c00]
          refine fin _ _ (Heap.le_refl _) (by rw [eL]; exact si) _ ?_
          rintro v G' ⟨base, c, rfl⟩ stv ⟨κ'', e2, R2⟩
          simp -implicitDefEqProofs only [zB1,zB2,zB3,zB4,zB5,zB6,zB7,zB8,zB9,zB10,zB11,y00,y01,y02,y03,y04,y05,y06,y07,y08,y09,y0a,y0b,y0c,y0d,y0e,y0f,y0g,y0h,y0i,y0j,y0k,y0l,y0m,y0n,y0o,y0p,y0q,y0r,y0s,y0t,y0u,y0v,y0w,y0x,y0y,y0z,y10,y11,y12,y13,y14,y15,y16,y17,y18,y19,y1a,y1b,y1c,y1d,y1e,y1f,y1g,y1h,y1i,y1j,y1k,y1l,y1m,y1n,y1o,y1p,y1q,y1r,retO,retL,retV,z6i,allV,allP,z6j,z6m,z6n,z6t,z6u,z6v,binV,eqV,unV,oOpt,reduceIte,reduceCtorEq,Nat.reduceEqDiff,Nat.reduceAdd,Nat.reduceMul,Nat.reduceLT,Nat.reduceSub,Int.reduceLT,Int.reduceLE,Int.reduceEq,Int.reduceNe,Int.reduceSub,Int.reduceAdd,Int.reduceMul,Int.reduceBEq,Int.reduceBNe,Int.reduceGT,Int.reduceGE,Nat.reduceGT,Int.reduceToNat,Int.reduceNeg,Nat.reduceLeDiff,Nat.reduceBEq,Nat.reduceBneDiff,Value.cells, stv, w2]
          exact ⟨L - (i + 1), by omega, i + 1, κ'', _, rfl, by omega, rfl, e2, R2⟩
      · have hlast' : ¬ i + 1 = L := by omega
        have hb : ((i : Int) == (L : Int) - 1) = false := by simp; omega
        have c00 := c0G _ (Heap.le_refl _)
        have eL : leftF keep torn L i F.writes[i] = F.writes[i] := by
          unfold leftF; rw [if_pos st, if_neg (fun h => hlast' h.1)]
        simp -implicitDefEqProofs only [zB1,zB2,zB3,zB4,zB5,zB6,zB7,zB8,zB9,zB10,zB11,y00,y01,y02,y03,y04,y05,y06,y07,y08,y09,y0a,y0b,y0c,y0d,y0e,y0f,y0g,y0h,y0i,y0j,y0k,y0l,y0m,y0n,y0o,y0p,y0q,y0r,y0s,y0t,y0u,y0v,y0w,y0x,y0y,y0z,y10,y11,y12,y13,y14,y15,y16,y17,y18,y19,y1a,y1b,y1c,y1d,y1e,y1f,y1g,y1h,y1i,y1j,y1k,y1l,y1m,y1n,y1o,y1p,y1q,y1r,retO,retL,retV,z6i,allV,allP,z6j,z6m,z6n,z6t,z6u,z6v,binV,eqV,unV,oOpt,reduceIte,reduceCtorEq,Nat.reduceEqDiff,Nat.reduceAdd,Nat.reduceMul,Nat.reduceLT,Nat.reduceSub,Int.reduceLT,Int.reduceLE,Int.reduceEq,Int.reduceNe,Int.reduceSub,Int.reduceAdd,Int.reduceMul,Int.reduceBEq,Int.reduceBNe,Int.reduceGT,Int.reduceGE,Nat.reduceGT,Int.reduceToNat,Int.reduceNeg,Nat.reduceLeDiff,Nat.reduceBEq,Nat.reduceBneDiff,Value.cells, st, hb, c00]
        refine fin _ _ (Heap.le_refl _) (by rw [eL]; exact si) _ ?_
        rintro v G' ⟨base, c, rfl⟩ stv ⟨κ'', e2, R2⟩
        simp -implicitDefEqProofs only [zB1,zB2,zB3,zB4,zB5,zB6,zB7,zB8,zB9,zB10,zB11,y00,y01,y02,y03,y04,y05,y06,y07,y08,y09,y0a,y0b,y0c,y0d,y0e,y0f,y0g,y0h,y0i,y0j,y0k,y0l,y0m,y0n,y0o,y0p,y0q,y0r,y0s,y0t,y0u,y0v,y0w,y0x,y0y,y0z,y10,y11,y12,y13,y14,y15,y16,y17,y18,y19,y1a,y1b,y1c,y1d,y1e,y1f,y1g,y1h,y1i,y1j,y1k,y1l,y1m,y1n,y1o,y1p,y1q,y1r,retO,retL,retV,z6i,allV,allP,z6j,z6m,z6n,z6t,z6u,z6v,binV,eqV,unV,oOpt,reduceIte,reduceCtorEq,Nat.reduceEqDiff,Nat.reduceAdd,Nat.reduceMul,Nat.reduceLT,Nat.reduceSub,Int.reduceLT,Int.reduceLE,Int.reduceEq,Int.reduceNe,Int.reduceSub,Int.reduceAdd,Int.reduceMul,Int.reduceBEq,Int.reduceBNe,Int.reduceGT,Int.reduceGE,Nat.reduceGT,Int.reduceToNat,Int.reduceNeg,Nat.reduceLeDiff,Nat.reduceBEq,Nat.reduceBneDiff,Value.cells, stv, w2]
        exact ⟨L - (i + 1), by omega, i + 1, κ'', _, rfl, by omega, rfl, e2, R2⟩
    · simp -implicitDefEqProofs only [zB1,zB2,zB3,zB4,zB5,zB6,zB7,zB8,zB9,zB10,zB11,y00,y01,y02,y03,y04,y05,y06,y07,y08,y09,y0a,y0b,y0c,y0d,y0e,y0f,y0g,y0h,y0i,y0j,y0k,y0l,y0m,y0n,y0o,y0p,y0q,y0r,y0s,y0t,y0u,y0v,y0w,y0x,y0y,y0z,y10,y11,y12,y13,y14,y15,y16,y17,y18,y19,y1a,y1b,y1c,y1d,y1e,y1f,y1g,y1h,y1i,y1j,y1k,y1l,y1m,y1n,y1o,y1p,y1q,y1r,retO,retL,retV,z6i,allV,allP,z6j,z6m,z6n,z6t,z6u,z6v,binV,eqV,unV,oOpt,reduceIte,reduceCtorEq,Nat.reduceEqDiff,Nat.reduceAdd,Nat.reduceMul,Nat.reduceLT,Nat.reduceSub,Int.reduceLT,Int.reduceLE,Int.reduceEq,Int.reduceNe,Int.reduceSub,Int.reduceAdd,Int.reduceMul,Int.reduceBEq,Int.reduceBNe,Int.reduceGT,Int.reduceGE,Nat.reduceGT,Int.reduceToNat,Int.reduceNeg,Nat.reduceLeDiff,Nat.reduceBEq,Nat.reduceBneDiff,Value.cells, st]
      unfold ir_disk_file_crash_q
      have g0 : (0 : Int) ≤ F.writes[i].length := by omega
      have g1 : (F.writes[i].length : Int) ≤ 9223372036854775807 := by omega
      have g2 : 1 * F.writes[i].length ≤ 281474976710656 := by omega
      have g3 : ((1 * F.writes[i].length : Nat) : Int) ≤ 281474976710656 := by omega
      have g4 : (F.writes[i].length : Int) ≤ 281474976710656 := by omega
      have eL : leftF keep torn L i F.writes[i] = List.replicate F.writes[i].length 0 := by
        unfold leftF; rw [if_neg (by simpa using st)]
      have zr : List.replicate F.writes[i].length (Value.int .u8 0) = (List.replicate F.writes[i].length (0 : UInt8)).map u8V := by rw [List.map_replicate]; rfl
      simp -implicitDefEqProofs only [zB1,zB2,zB3,zB4,zB5,zB6,zB7,zB8,zB9,zB10,zB11,y00,y01,y02,y03,y04,y05,y06,y07,y08,y09,y0a,y0b,y0c,y0d,y0e,y0f,y0g,y0h,y0i,y0j,y0k,y0l,y0m,y0n,y0o,y0p,y0q,y0r,y0s,y0t,y0u,y0v,y0w,y0x,y0y,y0z,y10,y11,y12,y13,y14,y15,y16,y17,y18,y19,y1a,y1b,y1c,y1d,y1e,y1f,y1g,y1h,y1i,y1j,y1k,y1l,y1m,y1n,y1o,y1p,y1q,y1r,retO,retL,retV,z6i,allV,allP,z6j,z6m,z6n,z6t,z6u,z6v,binV,eqV,unV,oOpt,reduceIte,reduceCtorEq,Nat.reduceEqDiff,Nat.reduceAdd,Nat.reduceMul,Nat.reduceLT,Nat.reduceSub,Int.reduceLT,Int.reduceLE,Int.reduceEq,Int.reduceNe,Int.reduceSub,Int.reduceAdd,Int.reduceMul,Int.reduceBEq,Int.reduceBNe,Int.reduceGT,Int.reduceGE,Nat.reduceGT,Int.reduceToNat,Int.reduceNeg,Nat.reduceLeDiff,Nat.reduceBEq,Nat.reduceBneDiff,Value.cells, st, g0, g1, g2, g3, g4, Int.toNat_natCast, Int.le_refl, Int.one_mul]
      intro b44 hb44
      rw [zr]
      have le44 := Heap.le_set (Heap.le_refl G1) hb44 (.own 0 ((List.replicate F.writes[i].length (0 : UInt8)).map u8V) F.writes[i].length)
      have sx : SlB (G1.set b44 (.own 0 ((List.replicate F.writes[i].length (0 : UInt8)).map u8V) F.writes[i].length)) (.slice (some ⟨b44, 0, none⟩) F.writes[i].length F.writes[i].length) (List.replicate F.writes[i].length 0) := by
        have := Sl.lit (h := G1) (b := b44) (n := F.writes[i].length) (sz := F.writes[i].length) (size := 1) (vs := (List.replicate F.writes[i].length (0 : UInt8)).map u8V) (by simp)
        unfold SlB
        rw [List.length_replicate]; exact this
      have c00 := c0G _ le44
      simp -implicitDefEqProofs only [zB1,zB2,zB3,zB4,zB5,zB6,zB7,zB8,zB9,zB10,zB11,y00,y01,y02,y03,y04,y05,y06,y07,y08,y09,y0a,y0b,y0c,y0d,y0e,y0f,y0g,y0h,y0i,y0j,y0k,y0l,y0m,y0n,y0o,y0p,y0q,y0r,y0s,y0t,y0u,y0v,y0w,y0x,y0y,y0z,y10,y11,y12,y13,y14,y15,y16,y17,y18,y19,y1a,y1b,y1c,y1d,y1e,y1f,y1g,y1h,y1i,y1j,y1k,y1l,y1m,y1n,y1o,y1p,y1q,y1r,retO,retL,retV,z6i,allV,allP,z6j,z6m,z6n,z6t,z6u,z6v,binV,eqV,unV,oOpt,reduceIte,reduceCtorEq,Nat.reduceEqDiff,Nat.reduceAdd,Nat.reduceMul,Nat.reduceLT,Nat.reduceSub,Int.reduceLT,Int.reduceLE,Int.reduceEq,Int.reduceNe,Int.reduceSub,Int.reduceAdd,Int.reduceMul,Int.reduceBEq,Int.reduceBNe,Int.reduceGT,Int.reduceGE,Nat.reduceGT,Int.reduceToNat,Int.reduceNeg,Nat.reduceLeDiff,Nat.reduceBEq,Nat.reduceBneDiff,Value.cells, c00]
      refine fin _ _ le44 (by rw [eL]; exact sx) _ ?_
      rintro v G' ⟨base, c, rfl⟩ stv ⟨κ'', e2, R2⟩
      simp -implicitDefEqProofs only [zB1,zB2,zB3,zB4,zB5,zB6,zB7,zB8,zB9,zB10,zB11,y00,y01,y02,y03,y04,y05,y06,y07,y08,y09,y0a,y0b,y0c,y0d,y0e,y0f,y0g,y0h,y0i,y0j,y0k,y0l,y0m,y0n,y0o,y0p,y0q,y0r,y0s,y0t,y0u,y0v,y0w,y0x,y0y,y0z,y10,y11,y12,y13,y14,y15,y16,y17,y18,y19,y1a,y1b,y1c,y1d,y1e,y1f,y1g,y1h,y1i,y1j,y1k,y1l,y1m,y1n,y1o,y1p,y1q,y1r,retO,retL,retV,z6i,allV,allP,z6j,z6m,z6n,z6t,z6u,z6v,binV,eqV,unV,oOpt,reduceIte,reduceCtorEq,Nat.reduceEqDiff,Nat.reduceAdd,Nat.reduceMul,Nat.reduceLT,Nat.reduceSub,Int.reduceLT,Int.reduceLE,Int.reduceEq,Int.reduceNe,Int.reduceSub,Int.reduceAdd,Int.reduceMul,Int.reduceBEq,Int.reduceBNe,Int.reduceGT,Int.reduceGE,Nat.reduceGT,Int.reduceToNat,Int.reduceNeg,Nat.reduceLeDiff,Nat.reduceBEq,Nat.reduceBneDiff,Value.cells, stv, w2]
      exact ⟨L - (i + 1), by omega, i + 1, κ'', _, rfl, by omega, rfl, e2, R2⟩
  · have hi1 : ¬ (i : Int) < L := by omega
    have e : i = L := by omega
    subst e
    have st1 : storeV G 1 (.pointer (some ⟨f, 1, none⟩)) (.slice none 0 0) = some (G.set f (.own 0 [vs', .slice none 0 0] 2)) := storeV_one_at q' rfl (by simp) (by simp)
    simp -implicitDefEqProofs only [zB1,zB2,zB3,zB4,zB5,zB6,zB7,zB8,zB9,zB10,zB11,y00,y01,y02,y03,y04,y05,y06,y07,y08,y09,y0a,y0b,y0c,y0d,y0e,y0f,y0g,y0h,y0i,y0j,y0k,y0l,y0m,y0n,y0o,y0p,y0q,y0r,y0s,y0t,y0u,y0v,y0w,y0x,y0y,y0z,y10,y11,y12,y13,y14,y15,y16,y17,y18,y19,y1a,y1b,y1c,y1d,y1e,y1f,y1g,y1h,y1i,y1j,y1k,y1l,y1m,y1n,y1o,y1p,y1q,y1r,retO,retL,retV,z6i,allV,allP,z6j,z6m,z6n,z6t,z6u,z6v,binV,eqV,unV,oOpt,reduceIte,reduceCtorEq,Nat.reduceEqDiff,Nat.reduceAdd,Nat.reduceMul,Nat.reduceLT,Nat.reduceSub,Int.reduceLT,Int.reduceLE,Int.reduceEq,Int.reduceNe,Int.reduceSub,Int.reduceAdd,Int.reduceMul,Int.reduceBEq,Int.reduceBNe,Int.reduceGT,Int.reduceGE,Nat.reduceGT,Int.reduceToNat,Int.reduceNeg,Nat.reduceLeDiff,Nat.reduceBEq,Nat.reduceBneDiff,Value.cells, hi1, st1]
    have e2 := Ext.set (H := G) k' (.own 0 [vs', .slice none 0 0] 2)
    refine ⟨κ', e0.trans (eG.trans (e2.mono fun c h => by subst h; exact ⟨rfl, rfl, Nat.zero_lt_succ _⟩)), vs', _, [], k', Heap.set_self _ _ _, ?_, Ow.nil _ _ _, rfl, fun i h1 h2 => by simp at h1⟩
    refine e2.own (by simp) ?_
    unfold FileF.crash
    rw [hL]
    exact s1'
end Go.Bb
/- Contracts: disks: names, files found. -/
namespace Go.Bb
set_option linter.unusedSimpArgs false
set_option linter.unusedVariables false
set_option maxRecDepth 20000
set_option maxHeartbeats 2000000

theorem strV_size (s : List UInt8) : (⟨s.toArray⟩ : ByteArray).size = s.length := by simp [ByteArray.size]
theorem disk_good_c (E : EnvT tab) (H : Heap) (s : List UInt8) (hs : s.length ≤ 9000000000000000000) : ACallN E.toEnv n_disk_good [strV s] H fun r H' => H' = H ∧ r = .bool (goodName s) := by
  refine acall h_disk_good ir_disk_good rfl rfl (wpA_sound ?_)
  unfold ir_disk_good strV
  have ez := strV_size s
  simp -implicitDefEqProofs only [zB1,zB2,zB3,zB4,zB5,zB6,zB7,zB8,zB9,zB10,zB11,y00,y01,y02,y03,y04,y05,y06,y07,y08,y09,y0a,y0b,y0c,y0d,y0e,y0f,y0g,y0h,y0i,y0j,y0k,y0l,y0m,y0n,y0o,y0p,y0q,y0r,y0s,y0t,y0u,y0v,y0w,y0x,y0y,y0z,y10,y11,y12,y13,y14,y15,y16,y17,y18,y19,y1a,y1b,y1c,y1d,y1e,y1f,y1g,y1h,y1i,y1j,y1k,y1l,y1m,y1n,y1o,y1p,y1q,y1r,retO,retL,retV,z6i,allV,allP,z6j,z6m,z6n,z6t,z6u,z6v,binV,eqV,unV,oOpt,reduceIte,reduceCtorEq,Nat.reduceEqDiff,Nat.reduceAdd,Nat.reduceMul,Nat.reduceLT,Nat.reduceSub,Int.reduceLT,Int.reduceLE,Int.reduceEq,Int.reduceNe,Int.reduceSub,Int.reduceAdd,Int.reduceMul,Int.reduceBEq,Int.reduceBNe,Int.reduceGT,Int.reduceGE,Nat.reduceGT,Int.reduceToNat,Int.reduceNeg,Nat.reduceLeDiff,Nat.reduceBEq,Nat.reduceBneDiff,Value.cells, ez]
  refine wp_loop' (fun m t G => G = H ∧ ∃ i : Nat, t = tl [(0, .string ⟨s.toArray⟩), (5, .int .i64 s.length), (6, .int .i64 i)] ∧ i ≤ s.length ∧ m = s.length - i ∧ (s.take i).all (fun b => decide (33 ≤ b.toNat ∧ b.toNat ≤ 126)) = true) s.length
    ⟨rfl, 0, rfl, by omega, by omega, by simp⟩ ?_
  rintro m t G ⟨rfl, i, rfl, hi, rfl, ha⟩
  by_cases hlt : i < s.length
  · have hi1 : (i : Int) < s.length := by omega
    have hi2 : (0 : Int) ≤ i := by omega
    have w1 : IntKind.i64.wrap ((i : Int) + 1) = ((i + 1 : Nat) : Int) := wrapN (by omega)
    have ix : s[i]? = some s[i] := List.getElem?_eq_getElem hlt
    have ad : s.toArray.toList = s := rfl
    by_cases g : 33 ≤ s[i].toNat ∧ s[i].toNat ≤ 126
    · have g1 : ¬ ((s[i].toNat : Int) < 33) := by omega
      have g2 : ¬ ((126 : Int) < s[i].toNat) := by omega
      simp -implicitDefEqProofs only [zB1,zB2,zB3,zB4,zB5,zB6,zB7,zB8,zB9,zB10,zB11,y00,y01,y02,y03,y04,y05,y06,y07,y08,y09,y0a,y0b,y0c,y0d,y0e,y0f,y0g,y0h,y0i,y0j,y0k,y0l,y0m,y0n,y0o,y0p,y0q,y0r,y0s,y0t,y0u,y0v,y0w,y0x,y0y,y0z,y10,y11,y12,y13,y14,y15,y16,y17,y18,y19,y1a,y1b,y1c,y1d,y1e,y1f,y1g,y1h,y1i,y1j,y1k,y1l,y1m,y1n,y1o,y1p,y1q,y1r,retO,retL,retV,z6i,allV,allP,z6j,z6m,z6n,z6t,z6u,z6v,binV,eqV,unV,oOpt,reduceIte,reduceCtorEq,Nat.reduceEqDiff,Nat.reduceAdd,Nat.reduceMul,Nat.reduceLT,Nat.reduceSub,Int.reduceLT,Int.reduceLE,Int.reduceEq,Int.reduceNe,Int.reduceSub,Int.reduceAdd,Int.reduceMul,Int.reduceBEq,Int.reduceBNe,Int.reduceGT,Int.reduceGE,Nat.reduceGT,Int.reduceToNat,Int.reduceNeg,Nat.reduceLeDiff,Nat.reduceBEq,Nat.reduceBneDiff,Value.cells, hi1, hi2, Int.toNat_natCast, ad, ix, g1, g2, w1]
      refine ⟨_, ?_, i + 1, rfl, by omega, rfl, ?_⟩
      · omega
      · rw [List.take_succ_eq_append_getElem hlt, List.all_append, ha]; simp [g]
    · have hf : goodName s = false := by
        unfold goodName
        have : s.all (fun b => decide (33 ≤ b.toNat ∧ b.toNat ≤ 126)) = false := by
          rw [List.all_eq_false]
          exact ⟨s[i], List.getElem_mem hlt, by simpa using g⟩
        rw [this]; rfl
      by_cases g1 : (s[i].toNat : Int) < 33
      · simp -implicitDefEqProofs only [zB1,zB2,zB3,zB4,zB5,zB6,zB7,zB8,zB9,zB10,zB11,y00,y01,y02,y03,y04,y05,y06,y07,y08,y09,y0a,y0b,y0c,y0d,y0e,y0f,y0g,y0h,y0i,y0j,y0k,y0l,y0m,y0n,y0o,y0p,y0q,y0r,y0s,y0t,y0u,y0v,y0w,y0x,y0y,y0z,y10,y11,y12,y13,y14,y15,y16,y17,y18,y19,y1a,y1b,y1c,y1d,y1e,y1f,y1g,y1h,y1i,y1j,y1k,y1l,y1m,y1n,y1o,y1p,y1q,y1r,retO,retL,retV,z6i,allV,allP,z6j,z6m,z6n,z6t,z6u,z6v,binV,eqV,unV,oOpt,reduceIte,reduceCtorEq,Nat.reduceEqDiff,Nat.reduceAdd,Nat.reduceMul,Nat.reduceLT,Nat.reduceSub,Int.reduceLT,Int.reduceLE,Int.reduceEq,Int.reduceNe,Int.reduceSub,Int.reduceAdd,Int.reduceMul,Int.reduceBEq,Int.reduceBNe,Int.reduceGT,Int.reduceGE,Nat.reduceGT,Int.reduceToNat,Int.reduceNeg,Nat.reduceLeDiff,Nat.reduceBEq,Nat.reduceBneDiff,Value.cells, hi1, hi2, Int.toNat_natCast, ad, ix, g1, hf]
      · have g2 : (126 : Int) < s[i].toNat := by omega
        simp -implicitDefEqProofs only [zB1,zB2,zB3,zB4,zB5,zB6,zB7,zB8,zB9,zB10,zB11,y00,y01,y02,y03,y04,y05,y06,y07,y08,y09,y0a,y0b,y0c,y0d,y0e,y0f,y0g,y0h,y0i,y0j,y0k,y0l,y0m,y0n,y0o,y0p,y0q,y0r,y0s,y0t,y0u,y0v,y0w,y0x,y0y,y0z,y10,y11,y12,y13,y14,y15,y16,y17,y18,y19,y1a,y1b,y1c,y1d,y1e,y1f,y1g,y1h,y1i,y1j,y1k,y1l,y1m,y1n,y1o,y1p,y1q,y1r,retO,retL,retV,z6i,allV,allP,z6j,z6m,z6n,z6t,z6u,z6v,binV,eqV,unV,oOpt,reduceIte,reduceCtorEq,Nat.reduceEqDiff,Nat.reduceAdd,Nat.reduceMul,Nat.reduceLT,Nat.reduceSub,Int.reduceLT,Int.reduceLE,Int.reduceEq,Int.reduceNe,Int.reduceSub,Int.reduceAdd,Int.reduceMul,Int.reduceBEq,Int.reduceBNe,Int.reduceGT,Int.reduceGE,Nat.reduceGT,Int.reduceToNat,Int.reduceNeg,Nat.reduceLeDiff,Nat.reduceBEq,Nat.reduceBneDiff,Value.cells, hi1, hi2, Int.toNat_natCast, ad, ix, g1, g2, hf]
  · have hi1 : ¬ (i : Int) < s.length := by omega
    have e : i = s.length := by omega
    subst e
    rw [List.take_length] at ha
    unfold goodName
    rw [ha]
    simp -implicitDefEqProofs only [zB1,zB2,zB3,zB4,zB5,zB6,zB7,zB8,zB9,zB10,zB11,y00,y01,y02,y03,y04,y05,y06,y07,y08,y09,y0a,y0b,y0c,y0d,y0e,y0f,y0g,y0h,y0i,y0j,y0k,y0l,y0m,y0n,y0o,y0p,y0q,y0r,y0s,y0t,y0u,y0v,y0w,y0x,y0y,y0z,y10,y11,y12,y13,y14,y15,y16,y17,y18,y19,y1a,y1b,y1c,y1d,y1e,y1f,y1g,y1h,y1i,y1j,y1k,y1l,y1m,y1n,y1o,y1p,y1q,y1r,retO,retL,retV,z6i,allV,allP,z6j,z6m,z6n,z6t,z6u,z6v,binV,eqV,unV,oOpt,reduceIte,reduceCtorEq,Nat.reduceEqDiff,Nat.reduceAdd,Nat.reduceMul,Nat.reduceLT,Nat.reduceSub,Int.reduceLT,Int.reduceLE,Int.reduceEq,Int.reduceNe,Int.reduceSub,Int.reduceAdd,Int.reduceMul,Int.reduceBEq,Int.reduceBNe,Int.reduceGT,Int.reduceGE,Nat.reduceGT,Int.reduceToNat,Int.reduceNeg,Nat.reduceLeDiff,Nat.reduceBEq,Nat.reduceBneDiff,Value.cells, hi1]
    unfold ir_disk_good_20
    by_cases g1 : 1 ≤ s.length
    · have g1' : (1 : Int) ≤ s.length := by omega
      by_cases g2 : s.length ≤ 20
      · have g2' : (s.length : Int) ≤ 20 := by omega
        simp -implicitDefEqProofs only [zB1,zB2,zB3,zB4,zB5,zB6,zB7,zB8,zB9,zB10,zB11,y00,y01,y02,y03,y04,y05,y06,y07,y08,y09,y0a,y0b,y0c,y0d,y0e,y0f,y0g,y0h,y0i,y0j,y0k,y0l,y0m,y0n,y0o,y0p,y0q,y0r,y0s,y0t,y0u,y0v,y0w,y0x,y0y,y0z,y10,y11,y12,y13,y14,y15,y16,y17,y18,y19,y1a,y1b,y1c,y1d,y1e,y1f,y1g,y1h,y1i,y1j,y1k,y1l,y1m,y1n,y1o,y1p,y1q,y1r,retO,retL,retV,z6i,allV,allP,z6j,z6m,z6n,z6t,z6u,z6v,binV,eqV,unV,oOpt,reduceIte,reduceCtorEq,Nat.reduceEqDiff,Nat.reduceAdd,Nat.reduceMul,Nat.reduceLT,Nat.reduceSub,Int.reduceLT,Int.reduceLE,Int.reduceEq,Int.reduceNe,Int.reduceSub,Int.reduceAdd,Int.reduceMul,Int.reduceBEq,Int.reduceBNe,Int.reduceGT,Int.reduceGE,Nat.reduceGT,Int.reduceToNat,Int.reduceNeg,Nat.reduceLeDiff,Nat.reduceBEq,Nat.reduceBneDiff,Value.cells, ez, g1', g2', g1, g2]
      · have g2' : ¬ (s.length : Int) ≤ 20 := by omega
        simp -implicitDefEqProofs only [zB1,zB2,zB3,zB4,zB5,zB6,zB7,zB8,zB9,zB10,zB11,y00,y01,y02,y03,y04,y05,y06,y07,y08,y09,y0a,y0b,y0c,y0d,y0e,y0f,y0g,y0h,y0i,y0j,y0k,y0l,y0m,y0n,y0o,y0p,y0q,y0r,y0s,y0t,y0u,y0v,y0w,y0x,y0y,y0z,y10,y11,y12,y13,y14,y15,y16,y17,y18,y19,y1a,y1b,y1c,y1d,y1e,y1f,y1g,y1h,y1i,y1j,y1k,y1l,y1m,y1n,y1o,y1p,y1q,y1r,retO,retL,retV,z6i,allV,allP,z6j,z6m,z6n,z6t,z6u,z6v,binV,eqV,unV,oOpt,reduceIte,reduceCtorEq,Nat.reduceEqDiff,Nat.reduceAdd,Nat.reduceMul,Nat.reduceLT,Nat.reduceSub,Int.reduceLT,Int.reduceLE,Int.reduceEq,Int.reduceNe,Int.reduceSub,Int.reduceAdd,Int.reduceMul,Int.reduceBEq,Int.reduceBNe,Int.reduceGT,Int.reduceGE,Nat.reduceGT,Int.reduceToNat,Int.reduceNeg,Nat.reduceLeDiff,Nat.reduceBEq,Nat.reduceBneDiff,Value.cells, ez, g1', g2', g1, g2]
    · have g1' : ¬ (1 : Int) ≤ s.length := by omega
      simp -implicitDefEqProofs only [zB1,zB2,zB3,zB4,zB5,zB6,zB7,zB8,zB9,zB10,zB11,y00,y01,y02,y03,y04,y05,y06,y07,y08,y09,y0a,y0b,y0c,y0d,y0e,y0f,y0g,y0h,y0i,y0j,y0k,y0l,y0m,y0n,y0o,y0p,y0q,y0r,y0s,y0t,y0u,y0v,y0w,y0x,y0y,y0z,y10,y11,y12,y13,y14,y15,y16,y17,y18,y19,y1a,y1b,y1c,y1d,y1e,y1f,y1g,y1h,y1i,y1j,y1k,y1l,y1m,y1n,y1o,y1p,y1q,y1r,retO,retL,retV,z6i,allV,allP,z6j,z6m,z6n,z6t,z6u,z6v,binV,eqV,unV,oOpt,reduceIte,reduceCtorEq,Nat.reduceEqDiff,Nat.reduceAdd,Nat.reduceMul,Nat.reduceLT,Nat.reduceSub,Int.reduceLT,Int.reduceLE,Int.reduceEq,Int.reduceNe,Int.reduceSub,Int.reduceAdd,Int.reduceMul,Int.reduceBEq,Int.reduceBNe,Int.reduceGT,Int.reduceGE,Nat.reduceGT,Int.reduceToNat,Int.reduceNeg,Nat.reduceLeDiff,Nat.reduceBEq,Nat.reduceBneDiff,Value.cells, ez, g1', g1, Bool.false_and]

/-- A file and its entry. -/
structure GFile where
  name : List UInt8
  f : Nat
  born : Nat
  F : FileF
def GFile.e (g : GFile) : MapEntry := { key := strV g.name, val := ptrV g.f, born := g.born }
structure DiskV (κ : Pal) (H : Heap) (d : Nat) (D : DiskF) (G : List GFile) (r clk : Nat) : Prop where
  kd : κ d = some (d, d, 4)
  qd : H d = some (.own 0 [.int .i64 D.room, .map (some r), .bool D.on, .int .i64 D.lives] 4)
  kr : κ r = some (d, d, 5)
  qr : H r = some (.obj (.map (G.map GFile.e).toArray clk))
  files : D.files = G.map fun g => (g.name, g.F)
  nf : (G.map (·.f)).Nodup
  nn : (G.map (·.name)).Nodup
  nb : (G.map (·.born)).Nodup
  lb : ∀ g ∈ G, g.born < clk
  R : ∀ g ∈ G, FileR κ H d g.f g.F
/-- A disk at its place. -/
def DiskR (κ : Pal) (H : Heap) (d : Nat) (D : DiskF) : Prop := ∃ G r clk, DiskV κ H d D G r clk
def diskC (d : Nat) : Col → Prop := fun c => c.1 = d
def DiskF.ok (D : DiskF) : Prop := (∀ x ∈ D.files, x.2.ok ∧ x.1.length ≤ 20) ∧ sizeF D.files ≤ 1048576 ∧ D.room ≤ 1048576 ∧ 0 ≤ D.room
theorem DiskV.ext {cs : Col → Prop} {κ κ' : Pal} {H H' : Heap} {d : Nat} {D : DiskF} {G : List GFile} {r clk : Nat} (a : Ext cs κ H κ' H') (n : ∀ c : Col, c.1 = d → ¬ cs c) (V : DiskV κ H d D G r clk) : DiskV κ' H' d D G r clk := by
  obtain ⟨g1, g2⟩ := a.blk V.kd (n _ rfl) V.qd
  obtain ⟨g3, g4⟩ := a.blk V.kr (n _ rfl) V.qr
  exact ⟨g2, g1, g4, g3, V.files, V.nf, V.nn, V.nb, V.lb, fun g hg => (V.R g hg).ext a fun r _ => n _ rfl⟩
theorem DiskR.ext {cs : Col → Prop} {κ κ' : Pal} {H H' : Heap} {d : Nat} {D : DiskF} (a : Ext cs κ H κ' H') (n : ∀ c : Col, c.1 = d → ¬ cs c) (R : DiskR κ H d D) : DiskR κ' H' d D := by
  obtain ⟨G, r, clk, V⟩ := R
  exact ⟨G, r, clk, V.ext a n⟩
theorem DiskR.le {κ : Pal} {H H' : Heap} {d : Nat} {D : DiskF} (h : H.le H') (R : DiskR κ H d D) : DiskR κ H' d D := R.ext (Ext.le (cs := fun _ => False) h) (fun _ _ q => q)
theorem DiskV.le {κ : Pal} {H H' : Heap} {d : Nat} {D : DiskF} {G : List GFile} {r clk : Nat} (h : H.le H') (V : DiskV κ H d D G r clk) : DiskV κ H' d D G r clk := V.ext (Ext.le (cs := fun _ => False) h) (fun _ _ q => q)

theorem keyV_str (a b : List UInt8) : keyV .str (strV a) (strV b) = some (decide (a = b)) := by
  simp only [strV, keyV, str_toList]
  congr 1
  rw [Bool.eq_iff_iff]; simp
/-- No file has a name, or one has it. -/
def Lack (G : List GFile) (s : List UInt8) : Prop := ∀ g ∈ G, g.name ≠ s
theorem lack_or (G : List GFile) (s : List UInt8) : Lack G s ∨ ∃ A g B, G = A ++ g :: B ∧ Lack A s ∧ g.name = s := by
  induction G with
  | nil => exact .inl (fun g h => by simp at h)
  | cons x G ih =>
    by_cases e : x.name = s
    · exact .inr ⟨[], x, G, rfl, (fun g h => by simp at h), e⟩
    · rcases ih with h | ⟨A, g, B, h1, h2, h3⟩
      · refine .inl fun g hg => ?_
        rcases List.mem_cons.1 hg with rfl | hg
        · exact e
        · exact h g hg
      · refine .inr ⟨x :: A, g, B, by rw [h1]; rfl, fun g' hg => ?_, h3⟩
        rcases List.mem_cons.1 hg with rfl | hg
        · exact e
        · exact h2 g' hg
theorem findG_none {s : List UInt8} : ∀ {G : List GFile} (i : Nat), Lack G s → findV .str (strV s) (G.map GFile.e) i = some none
  | [], _, _ => rfl
  | x :: G, i, h => by
    have hx := h x List.mem_cons_self
    show (match keyV .str (strV s) (strV x.name) with | some true => _ | some false => findV .str (strV s) (G.map GFile.e) (i + 1) | none => none) = _
    rw [keyV_str, decide_eq_false (fun e => hx e.symm)]
    exact findG_none (i + 1) fun g hg => h g (List.mem_cons_of_mem _ hg)
theorem findG_some {s : List UInt8} {g : GFile} {B : List GFile} (hs : g.name = s) : ∀ {A : List GFile} (i : Nat), Lack A s → findV .str (strV s) ((A ++ g :: B).map GFile.e) i = some (some (i + A.length, ptrV g.f))
  | [], i, _ => by
    show (match keyV .str (strV s) (strV g.name) with | some true => some (some (i, ptrV g.f)) | some false => findV .str (strV s) (B.map GFile.e) (i + 1) | none => none) = _
    rw [keyV_str, decide_eq_true hs.symm]
    rfl
  | x :: A, i, h => by
    have hx := h x List.mem_cons_self
    show (match keyV .str (strV s) (strV x.name) with | some true => _ | some false => findV .str (strV s) ((A ++ g :: B).map GFile.e) (i + 1) | none => none) = _
    rw [keyV_str, decide_eq_false (fun e => hx e.symm), findG_some hs (i + 1) fun g hg => h g (List.mem_cons_of_mem _ hg)]
    simp only [List.length_cons]
    congr 3; omega
theorem look_lack {G : List GFile} {s : List UInt8} (h : Lack G s) : lookF (G.map fun g => (g.name, g.F)) s = none := by
  unfold lookF
  rw [Option.map_eq_none_iff, List.find?_eq_none]
  intro x hx
  obtain ⟨g, hg, rfl⟩ := List.mem_map.1 hx
  simpa using h g hg
theorem look_some {A B : List GFile} {g : GFile} {s : List UInt8} (h : Lack A s) (hs : g.name = s) : lookF ((A ++ g :: B).map fun g => (g.name, g.F)) s = some g.F := by
  unfold lookF
  rw [List.map_append, List.find?_append]
  have : List.find? (fun x : List UInt8 × FileF => decide (x.1 = s)) (A.map fun g => (g.name, g.F)) = none := by
    rw [List.find?_eq_none]
    intro x hx
    obtain ⟨g, hg, rfl⟩ := List.mem_map.1 hx
    simpa using h g hg
  rw [this]
  simp [hs]
end Go.Bb
/- Contracts: disks: what is asked, found, how great. -/
namespace Go.Bb
set_option linter.unusedSimpArgs false
set_option linter.unusedVariables false
set_option maxRecDepth 20000
set_option maxHeartbeats 2000000

theorem disk_ask_c (E : EnvT tab) {κ : Pal} {H : Heap} {d : Nat} {D : DiskF} (R : DiskR κ H d D) {vn : Value} (names : List (List UInt8)) (hn : names.length ≤ 100) (hl : ∀ s ∈ names, s.length ≤ 9000000000000000000) (sn : Sl H 1 vn names.length (names.map strV)) :
    ACallN E.toEnv n_disk_Disk_ask [ptrV d, vn] H fun r H' => H' = H ∧ r = .int .i64 (askF D names : Nat) := by
  obtain ⟨G, r, clk, V⟩ := R
  obtain ⟨base, c, rfl⟩ := Sl.shape sn
  refine acall h_disk_Disk_ask ir_disk_Disk_ask rfl rfl (wpA_sound ?_)
  unfold ir_disk_Disk_ask
  have c2 : hcell H ⟨d, 2, none⟩ = some (.bool D.on) := by rw [hcell_at V.qd (by simp)]; rfl
  simp -implicitDefEqProofs only [zB1,zB2,zB3,zB4,zB5,zB6,zB7,zB8,zB9,zB10,zB11,y00,y01,y02,y03,y04,y05,y06,y07,y08,y09,y0a,y0b,y0c,y0d,y0e,y0f,y0g,y0h,y0i,y0j,y0k,y0l,y0m,y0n,y0o,y0p,y0q,y0r,y0s,y0t,y0u,y0v,y0w,y0x,y0y,y0z,y10,y11,y12,y13,y14,y15,y16,y17,y18,y19,y1a,y1b,y1c,y1d,y1e,y1f,y1g,y1h,y1i,y1j,y1k,y1l,y1m,y1n,y1o,y1p,y1q,y1r,retO,retL,retV,z6i,allV,allP,z6j,z6m,z6n,z6t,z6u,z6v,binV,eqV,unV,oOpt,reduceIte,reduceCtorEq,Nat.reduceEqDiff,Nat.reduceAdd,Nat.reduceMul,Nat.reduceLT,Nat.reduceSub,Int.reduceLT,Int.reduceLE,Int.reduceEq,Int.reduceNe,Int.reduceSub,Int.reduceAdd,Int.reduceMul,Int.reduceBEq,Int.reduceBNe,Int.reduceGT,Int.reduceGE,Nat.reduceGT,Int.reduceToNat,Int.reduceNeg,Nat.reduceLeDiff,Nat.reduceBEq,Nat.reduceBneDiff,Value.cells]
  unfold ir_disk_Disk_ask_7 askF
  by_cases on : D.on = true
  · simp -implicitDefEqProofs only [zB1,zB2,zB3,zB4,zB5,zB6,zB7,zB8,zB9,zB10,zB11,y00,y01,y02,y03,y04,y05,y06,y07,y08,y09,y0a,y0b,y0c,y0d,y0e,y0f,y0g,y0h,y0i,y0j,y0k,y0l,y0m,y0n,y0o,y0p,y0q,y0r,y0s,y0t,y0u,y0v,y0w,y0x,y0y,y0z,y10,y11,y12,y13,y14,y15,y16,y17,y18,y19,y1a,y1b,y1c,y1d,y1e,y1f,y1g,y1h,y1i,y1j,y1k,y1l,y1m,y1n,y1o,y1p,y1q,y1r,retO,retL,retV,z6i,allV,allP,z6j,z6m,z6n,z6t,z6u,z6v,binV,eqV,unV,oOpt,reduceIte,reduceCtorEq,Nat.reduceEqDiff,Nat.reduceAdd,Nat.reduceMul,Nat.reduceLT,Nat.reduceSub,Int.reduceLT,Int.reduceLE,Int.reduceEq,Int.reduceNe,Int.reduceSub,Int.reduceAdd,Int.reduceMul,Int.reduceBEq,Int.reduceBNe,Int.reduceGT,Int.reduceGE,Nat.reduceGT,Int.reduceToNat,Int.reduceNeg,Nat.reduceLeDiff,Nat.reduceBEq,Nat.reduceBneDiff,Value.cells, c2, on]
    refine wp_loop' (fun m t K => K = H ∧ ∃ i : Nat, t = tl [(12, .slice base names.length c), (13, .int .i64 names.length), (14, .int .i64 i)] ∧ i ≤ names.length ∧ m = names.length - i ∧ (names.take i).all goodName = true) names.length
      ⟨rfl, 0, rfl, by omega, by omega, by simp⟩ ?_
    rintro m t K ⟨rfl, i, rfl, hi, rfl, ha⟩
    by_cases hlt : i < names.length
    · have hi1 : (i : Int) < names.length := by omega
      have hi2 : (0 : Int) ≤ i := by omega
      have w1 : IntKind.i64.wrap ((i : Int) + 1) = ((i + 1 : Nat) : Int) := wrapN (by omega)
      obtain ⟨b, o, c', hv, hc, hcl⟩ := sn.ptr (by omega) (by omega)
      simp only [Value.slice.injEq, true_and] at hv
      obtain ⟨rfl, rfl⟩ := hv
      rw [Nat.mul_one] at hcl
      have ci := hcell_of hcl i (by simpa using hlt)
      rw [List.getElem?_map, List.getElem?_eq_getElem hlt, Option.map_some] at ci
      simp -implicitDefEqProofs only [zB1,zB2,zB3,zB4,zB5,zB6,zB7,zB8,zB9,zB10,zB11,y00,y01,y02,y03,y04,y05,y06,y07,y08,y09,y0a,y0b,y0c,y0d,y0e,y0f,y0g,y0h,y0i,y0j,y0k,y0l,y0m,y0n,y0o,y0p,y0q,y0r,y0s,y0t,y0u,y0v,y0w,y0x,y0y,y0z,y10,y11,y12,y13,y14,y15,y16,y17,y18,y19,y1a,y1b,y1c,y1d,y1e,y1f,y1g,y1h,y1i,y1j,y1k,y1l,y1m,y1n,y1o,y1p,y1q,y1r,retO,retL,retV,z6i,allV,allP,z6j,z6m,z6n,z6t,z6u,z6v,binV,eqV,unV,oOpt,reduceIte,reduceCtorEq,Nat.reduceEqDiff,Nat.reduceAdd,Nat.reduceMul,Nat.reduceLT,Nat.reduceSub,Int.reduceLT,Int.reduceLE,Int.reduceEq,Int.reduceNe,Int.reduceSub,Int.reduceAdd,Int.reduceMul,Int.reduceBEq,Int.reduceBNe,Int.reduceGT,Int.reduceGE,Nat.reduceGT,Int.reduceToNat,Int.reduceNeg,Nat.reduceLeDiff,Nat.reduceBEq,Nat.reduceBneDiff,Value.cells, hi1, hi2, Int.toNat_natCast, ci]
      refine (disk_good_c E K names[i] (hl _ (List.getElem_mem hlt))).mono ?_
      rintro v K2 ⟨rfl, rfl⟩
      by_cases g : goodName names[i] = true
      · simp -implicitDefEqProofs only [zB1,zB2,zB3,zB4,zB5,zB6,zB7,zB8,zB9,zB10,zB11,y00,y01,y02,y03,y04,y05,y06,y07,y08,y09,y0a,y0b,y0c,y0d,y0e,y0f,y0g,y0h,y0i,y0j,y0k,y0l,y0m,y0n,y0o,y0p,y0q,y0r,y0s,y0t,y0u,y0v,y0w,y0x,y0y,y0z,y10,y11,y12,y13,y14,y15,y16,y17,y18,y19,y1a,y1b,y1c,y1d,y1e,y1f,y1g,y1h,y1i,y1j,y1k,y1l,y1m,y1n,y1o,y1p,y1q,y1r,retO,retL,retV,z6i,allV,allP,z6j,z6m,z6n,z6t,z6u,z6v,binV,eqV,unV,oOpt,reduceIte,reduceCtorEq,Nat.reduceEqDiff,Nat.reduceAdd,Nat.reduceMul,Nat.reduceLT,Nat.reduceSub,Int.reduceLT,Int.reduceLE,Int.reduceEq,Int.reduceNe,Int.reduceSub,Int.reduceAdd,Int.reduceMul,Int.reduceBEq,Int.reduceBNe,Int.reduceGT,Int.reduceGE,Nat.reduceGT,Int.reduceToNat,Int.reduceNeg,Nat.reduceLeDiff,Nat.reduceBEq,Nat.reduceBneDiff,Value.cells, g, w1]
        refine ⟨_, ?_, i + 1, rfl, by omega, rfl, ?_⟩
        · omega
        · rw [List.take_succ_eq_append_getElem hlt, List.all_append, ha]; simp [g]
      · have hf : names.all goodName = false := by
          rw [List.all_eq_false]
          exact ⟨names[i], List.getElem_mem hlt, by simpa using g⟩
        simp -implicitDefEqProofs only [zB1,zB2,zB3,zB4,zB5,zB6,zB7,zB8,zB9,zB10,zB11,y00,y01,y02,y03,y04,y05,y06,y07,y08,y09,y0a,y0b,y0c,y0d,y0e,y0f,y0g,y0h,y0i,y0j,y0k,y0l,y0m,y0n,y0o,y0p,y0q,y0r,y0s,y0t,y0u,y0v,y0w,y0x,y0y,y0z,y10,y11,y12,y13,y14,y15,y16,y17,y18,y19,y1a,y1b,y1c,y1d,y1e,y1f,y1g,y1h,y1i,y1j,y1k,y1l,y1m,y1n,y1o,y1p,y1q,y1r,retO,retL,retV,z6i,allV,allP,z6j,z6m,z6n,z6t,z6u,z6v,binV,eqV,unV,oOpt,reduceIte,reduceCtorEq,Nat.reduceEqDiff,Nat.reduceAdd,Nat.reduceMul,Nat.reduceLT,Nat.reduceSub,Int.reduceLT,Int.reduceLE,Int.reduceEq,Int.reduceNe,Int.reduceSub,Int.reduceAdd,Int.reduceMul,Int.reduceBEq,Int.reduceBNe,Int.reduceGT,Int.reduceGE,Nat.reduceGT,Int.reduceToNat,Int.reduceNeg,Nat.reduceLeDiff,Nat.reduceBEq,Nat.reduceBneDiff,Value.cells, g, hf]
    · have hi1 : ¬ (i : Int) < names.length := by omega
      have e : i = names.length := by omega
      subst e
      rw [List.take_length] at ha
      simp -implicitDefEqProofs only [zB1,zB2,zB3,zB4,zB5,zB6,zB7,zB8,zB9,zB10,zB11,y00,y01,y02,y03,y04,y05,y06,y07,y08,y09,y0a,y0b,y0c,y0d,y0e,y0f,y0g,y0h,y0i,y0j,y0k,y0l,y0m,y0n,y0o,y0p,y0q,y0r,y0s,y0t,y0u,y0v,y0w,y0x,y0y,y0z,y10,y11,y12,y13,y14,y15,y16,y17,y18,y19,y1a,y1b,y1c,y1d,y1e,y1f,y1g,y1h,y1i,y1j,y1k,y1l,y1m,y1n,y1o,y1p,y1q,y1r,retO,retL,retV,z6i,allV,allP,z6j,z6m,z6n,z6t,z6u,z6v,binV,eqV,unV,oOpt,reduceIte,reduceCtorEq,Nat.reduceEqDiff,Nat.reduceAdd,Nat.reduceMul,Nat.reduceLT,Nat.reduceSub,Int.reduceLT,Int.reduceLE,Int.reduceEq,Int.reduceNe,Int.reduceSub,Int.reduceAdd,Int.reduceMul,Int.reduceBEq,Int.reduceBNe,Int.reduceGT,Int.reduceGE,Nat.reduceGT,Int.reduceToNat,Int.reduceNeg,Nat.reduceLeDiff,Nat.reduceBEq,Nat.reduceBneDiff,Value.cells, hi1, ha]
  · simp -implicitDefEqProofs only [zB1,zB2,zB3,zB4,zB5,zB6,zB7,zB8,zB9,zB10,zB11,y00,y01,y02,y03,y04,y05,y06,y07,y08,y09,y0a,y0b,y0c,y0d,y0e,y0f,y0g,y0h,y0i,y0j,y0k,y0l,y0m,y0n,y0o,y0p,y0q,y0r,y0s,y0t,y0u,y0v,y0w,y0x,y0y,y0z,y10,y11,y12,y13,y14,y15,y16,y17,y18,y19,y1a,y1b,y1c,y1d,y1e,y1f,y1g,y1h,y1i,y1j,y1k,y1l,y1m,y1n,y1o,y1p,y1q,y1r,retO,retL,retV,z6i,allV,allP,z6j,z6m,z6n,z6t,z6u,z6v,binV,eqV,unV,oOpt,reduceIte,reduceCtorEq,Nat.reduceEqDiff,Nat.reduceAdd,Nat.reduceMul,Nat.reduceLT,Nat.reduceSub,Int.reduceLT,Int.reduceLE,Int.reduceEq,Int.reduceNe,Int.reduceSub,Int.reduceAdd,Int.reduceMul,Int.reduceBEq,Int.reduceBNe,Int.reduceGT,Int.reduceGE,Nat.reduceGT,Int.reduceToNat,Int.reduceNeg,Nat.reduceLeDiff,Nat.reduceBEq,Nat.reduceBneDiff,Value.cells, c2, on]

theorem disk_find_c (E : EnvT tab) {κ : Pal} {H : Heap} {d : Nat} {D : DiskF} {G : List GFile} {r clk : Nat} (V : DiskV κ H d D G r clk) (s : List UInt8) (hs : s.length ≤ 9000000000000000000) :
    ACallN E.toEnv n_disk_Disk_find [ptrV d, strV s] H fun v H' => H.le H' ∧
      ((askF D [s] ≠ 0 ∧ v = .tuple #[.pointer none, .int .i64 (askF D [s] : Nat)]) ∨ (askF D [s] = 0 ∧ Lack G s ∧ v = .tuple #[.pointer none, .int .i64 4]) ∨
      (askF D [s] = 0 ∧ ∃ A g B, G = A ++ g :: B ∧ Lack A s ∧ g.name = s ∧ v = .tuple #[ptrV g.f, .int .i64 0])) := by
  refine acall h_disk_Disk_find ir_disk_Disk_find rfl rfl (wpA_sound ?_)
  unfold ir_disk_Disk_find
  simp -implicitDefEqProofs only [zB1,zB2,zB3,zB4,zB5,zB6,zB7,zB8,zB9,zB10,zB11,y00,y01,y02,y03,y04,y05,y06,y07,y08,y09,y0a,y0b,y0c,y0d,y0e,y0f,y0g,y0h,y0i,y0j,y0k,y0l,y0m,y0n,y0o,y0p,y0q,y0r,y0s,y0t,y0u,y0v,y0w,y0x,y0y,y0z,y10,y11,y12,y13,y14,y15,y16,y17,y18,y19,y1a,y1b,y1c,y1d,y1e,y1f,y1g,y1h,y1i,y1j,y1k,y1l,y1m,y1n,y1o,y1p,y1q,y1r,retO,retL,retV,z6i,allV,allP,z6j,z6m,z6n,z6t,z6u,z6v,binV,eqV,unV,oOpt,reduceIte,reduceCtorEq,Nat.reduceEqDiff,Nat.reduceAdd,Nat.reduceMul,Nat.reduceLT,Nat.reduceSub,Int.reduceLT,Int.reduceLE,Int.reduceEq,Int.reduceNe,Int.reduceSub,Int.reduceAdd,Int.reduceMul,Int.reduceBEq,Int.reduceBNe,Int.reduceGT,Int.reduceGE,Nat.reduceGT,Int.reduceToNat,Int.reduceNeg,Nat.reduceLeDiff,Nat.reduceBEq,Nat.reduceBneDiff,Value.cells]
  intro b hb
  try simp -implicitDefEqProofs only [zB1,zB2,zB3,zB4,zB5,zB6,zB7,zB8,zB9,zB10,zB11,y00,y01,y02,y03,y04,y05,y06,y07,y08,y09,y0a,y0b,y0c,y0d,y0e,y0f,y0g,y0h,y0i,y0j,y0k,y0l,y0m,y0n,y0o,y0p,y0q,y0r,y0s,y0t,y0u,y0v,y0w,y0x,y0y,y0z,y10,y11,y12,y13,y14,y15,y16,y17,y18,y19,y1a,y1b,y1c,y1d,y1e,y1f,y1g,y1h,y1i,y1j,y1k,y1l,y1m,y1n,y1o,y1p,y1q,y1r,retO,retL,retV,z6i,allV,allP,z6j,z6m,z6n,z6t,z6u,z6v,binV,eqV,unV,oOpt,reduceIte,reduceCtorEq,Nat.reduceEqDiff,Nat.reduceAdd,Nat.reduceMul,Nat.reduceLT,Nat.reduceSub,Int.reduceLT,Int.reduceLE,Int.reduceEq,Int.reduceNe,Int.reduceSub,Int.reduceAdd,Int.reduceMul,Int.reduceBEq,Int.reduceBNe,Int.reduceGT,Int.reduceGE,Nat.reduceGT,Int.reduceToNat,Int.reduceNeg,Nat.reduceLeDiff,Nat.reduceBEq,Nat.reduceBneDiff,Value.cells, strV]
  have le1 := Heap.le_set (Heap.le_refl H) hb (.own 0 [strV s] 1)
  have sn : Sl (H.set b (.own 0 [strV s] 1)) 1 (.slice (some ⟨b, 0, none⟩) 1 1) 1 [strV s] := Sl.lit rfl
  refine (disk_ask_c E ⟨G, r, clk, V.le le1⟩ [s] (by simp) (by simpa using hs) sn).mono ?_
  rintro v H1 ⟨rfl, rfl⟩
  generalize (H.set b (.own 0 [strV s] 1)) = H1 at le1
  have V1 := V.le le1
  have c1 : hcell H1 ⟨d, 1, none⟩ = some (.map (some r)) := by rw [hcell_at V1.qd (by simp)]; rfl
  have ma : mapAt H1 r = some ((G.map GFile.e).toArray, clk) := by simp [mapAt, V1.qr]
  have kf : keyFit .str (.string ⟨s.toArray⟩) = some () := rfl
  by_cases e : askF D [s] = 0
  · rcases lack_or G s with l | ⟨A, g, B, rfl, l, hg⟩
    · have fv := findG_none (s := s) 0 l
      simp only [strV] at fv
      simp -implicitDefEqProofs only [zB1,zB2,zB3,zB4,zB5,zB6,zB7,zB8,zB9,zB10,zB11,y00,y01,y02,y03,y04,y05,y06,y07,y08,y09,y0a,y0b,y0c,y0d,y0e,y0f,y0g,y0h,y0i,y0j,y0k,y0l,y0m,y0n,y0o,y0p,y0q,y0r,y0s,y0t,y0u,y0v,y0w,y0x,y0y,y0z,y10,y11,y12,y13,y14,y15,y16,y17,y18,y19,y1a,y1b,y1c,y1d,y1e,y1f,y1g,y1h,y1i,y1j,y1k,y1l,y1m,y1n,y1o,y1p,y1q,y1r,retO,retL,retV,z6i,allV,allP,z6j,z6m,z6n,z6t,z6u,z6v,binV,eqV,unV,oOpt,reduceIte,reduceCtorEq,Nat.reduceEqDiff,Nat.reduceAdd,Nat.reduceMul,Nat.reduceLT,Nat.reduceSub,Int.reduceLT,Int.reduceLE,Int.reduceEq,Int.reduceNe,Int.reduceSub,Int.reduceAdd,Int.reduceMul,Int.reduceBEq,Int.reduceBNe,Int.reduceGT,Int.reduceGE,Nat.reduceGT,Int.reduceToNat,Int.reduceNeg,Nat.reduceLeDiff,Nat.reduceBEq,Nat.reduceBneDiff,Value.cells, e]
      unfold ir_disk_Disk_find_17
      simp -implicitDefEqProofs only [zB1,zB2,zB3,zB4,zB5,zB6,zB7,zB8,zB9,zB10,zB11,y00,y01,y02,y03,y04,y05,y06,y07,y08,y09,y0a,y0b,y0c,y0d,y0e,y0f,y0g,y0h,y0i,y0j,y0k,y0l,y0m,y0n,y0o,y0p,y0q,y0r,y0s,y0t,y0u,y0v,y0w,y0x,y0y,y0z,y10,y11,y12,y13,y14,y15,y16,y17,y18,y19,y1a,y1b,y1c,y1d,y1e,y1f,y1g,y1h,y1i,y1j,y1k,y1l,y1m,y1n,y1o,y1p,y1q,y1r,retO,retL,retV,z6i,allV,allP,z6j,z6m,z6n,z6t,z6u,z6v,binV,eqV,unV,oOpt,reduceIte,reduceCtorEq,Nat.reduceEqDiff,Nat.reduceAdd,Nat.reduceMul,Nat.reduceLT,Nat.reduceSub,Int.reduceLT,Int.reduceLE,Int.reduceEq,Int.reduceNe,Int.reduceSub,Int.reduceAdd,Int.reduceMul,Int.reduceBEq,Int.reduceBNe,Int.reduceGT,Int.reduceGE,Nat.reduceGT,Int.reduceToNat,Int.reduceNeg,Nat.reduceLeDiff,Nat.reduceBEq,Nat.reduceBneDiff,Value.cells, c1, ma, kf, fv]
      exact ⟨le1, .inr (.inl l)⟩
    · have fv := findG_some (B := B) hg 0 l
      simp only [strV] at fv
      simp -implicitDefEqProofs only [zB1,zB2,zB3,zB4,zB5,zB6,zB7,zB8,zB9,zB10,zB11,y00,y01,y02,y03,y04,y05,y06,y07,y08,y09,y0a,y0b,y0c,y0d,y0e,y0f,y0g,y0h,y0i,y0j,y0k,y0l,y0m,y0n,y0o,y0p,y0q,y0r,y0s,y0t,y0u,y0v,y0w,y0x,y0y,y0z,y10,y11,y12,y13,y14,y15,y16,y17,y18,y19,y1a,y1b,y1c,y1d,y1e,y1f,y1g,y1h,y1i,y1j,y1k,y1l,y1m,y1n,y1o,y1p,y1q,y1r,retO,retL,retV,z6i,allV,allP,z6j,z6m,z6n,z6t,z6u,z6v,binV,eqV,unV,oOpt,reduceIte,reduceCtorEq,Nat.reduceEqDiff,Nat.reduceAdd,Nat.reduceMul,Nat.reduceLT,Nat.reduceSub,Int.reduceLT,Int.reduceLE,Int.reduceEq,Int.reduceNe,Int.reduceSub,Int.reduceAdd,Int.reduceMul,Int.reduceBEq,Int.reduceBNe,Int.reduceGT,Int.reduceGE,Nat.reduceGT,Int.reduceToNat,Int.reduceNeg,Nat.reduceLeDiff,Nat.reduceBEq,Nat.reduceBneDiff,Value.cells, e]
      unfold ir_disk_Disk_find_17
      simp -implicitDefEqProofs only [zB1,zB2,zB3,zB4,zB5,zB6,zB7,zB8,zB9,zB10,zB11,y00,y01,y02,y03,y04,y05,y06,y07,y08,y09,y0a,y0b,y0c,y0d,y0e,y0f,y0g,y0h,y0i,y0j,y0k,y0l,y0m,y0n,y0o,y0p,y0q,y0r,y0s,y0t,y0u,y0v,y0w,y0x,y0y,y0z,y10,y11,y12,y13,y14,y15,y16,y17,y18,y19,y1a,y1b,y1c,y1d,y1e,y1f,y1g,y1h,y1i,y1j,y1k,y1l,y1m,y1n,y1o,y1p,y1q,y1r,retO,retL,retV,z6i,allV,allP,z6j,z6m,z6n,z6t,z6u,z6v,binV,eqV,unV,oOpt,reduceIte,reduceCtorEq,Nat.reduceEqDiff,Nat.reduceAdd,Nat.reduceMul,Nat.reduceLT,Nat.reduceSub,Int.reduceLT,Int.reduceLE,Int.reduceEq,Int.reduceNe,Int.reduceSub,Int.reduceAdd,Int.reduceMul,Int.reduceBEq,Int.reduceBNe,Int.reduceGT,Int.reduceGE,Nat.reduceGT,Int.reduceToNat,Int.reduceNeg,Nat.reduceLeDiff,Nat.reduceBEq,Nat.reduceBneDiff,Value.cells, c1, ma, kf, fv]
      exact ⟨le1, .inr (.inr ⟨A, g, B, rfl, l, hg, rfl⟩)⟩
  · have e' : ¬ ((askF D [s] : Nat) : Int) = 0 := by omega
    have e2 : (((askF D [s] : Nat) : Int) == 0) = false := by simpa using e
    simp -implicitDefEqProofs only [zB1,zB2,zB3,zB4,zB5,zB6,zB7,zB8,zB9,zB10,zB11,y00,y01,y02,y03,y04,y05,y06,y07,y08,y09,y0a,y0b,y0c,y0d,y0e,y0f,y0g,y0h,y0i,y0j,y0k,y0l,y0m,y0n,y0o,y0p,y0q,y0r,y0s,y0t,y0u,y0v,y0w,y0x,y0y,y0z,y10,y11,y12,y13,y14,y15,y16,y17,y18,y19,y1a,y1b,y1c,y1d,y1e,y1f,y1g,y1h,y1i,y1j,y1k,y1l,y1m,y1n,y1o,y1p,y1q,y1r,retO,retL,retV,z6i,allV,allP,z6j,z6m,z6n,z6t,z6u,z6v,binV,eqV,unV,oOpt,reduceIte,reduceCtorEq,Nat.reduceEqDiff,Nat.reduceAdd,Nat.reduceMul,Nat.reduceLT,Nat.reduceSub,Int.reduceLT,Int.reduceLE,Int.reduceEq,Int.reduceNe,Int.reduceSub,Int.reduceAdd,Int.reduceMul,Int.reduceBEq,Int.reduceBNe,Int.reduceGT,Int.reduceGE,Nat.reduceGT,Int.reduceToNat,Int.reduceNeg,Nat.reduceLeDiff,Nat.reduceBEq,Nat.reduceBneDiff,Value.cells, e, e', e2]
    exact ⟨le1, .inl trivial⟩

/-! ### walks over the files -/
theorem left_mem {G done rest : List GFile} (hp : (done ++ rest).Perm G) (nb : (G.map (·.born)).Nodup) {e : MapEntry} (he : e ∈ (leftOf (G.map GFile.e).toArray (done.map (·.born)).toArray).toList) : ∃ A g B, rest = A ++ g :: B ∧ e = g.e := by
  unfold leftOf at he
  rw [Array.toList_filter, List.mem_filter] at he
  obtain ⟨h1, h2⟩ := he
  obtain ⟨g, hg, rfl⟩ := List.mem_map.1 h1
  have h3 : g.born ∉ done.map (·.born) := by
    intro hh
    have : (done.map (·.born)).toArray.contains g.e.born = true := by simpa [GFile.e] using hh
    rw [this] at h2; cases h2
  rcases List.mem_append.1 (hp.mem_iff.2 hg) with hd | hr
  · exact absurd (List.mem_map_of_mem hd) h3
  · obtain ⟨A, B, e⟩ := List.append_of_mem hr
    exact ⟨A, g, B, e, rfl⟩
theorem left_none {G done rest : List GFile} (hp : (done ++ rest).Perm G) (nb : (G.map (·.born)).Nodup) (he : (leftOf (G.map GFile.e).toArray (done.map (·.born)).toArray).size = 0) : rest = [] := by
  cases rest with
  | nil => rfl
  | cons g rest =>
    exfalso
    have hg : g ∈ G := hp.mem_iff.1 (by simp)
    have nd : ((done ++ g :: rest).map (·.born)).Nodup := (hp.map _).nodup_iff.2 nb
    have h3 : g.born ∉ done.map (·.born) := by
      rw [List.map_append, List.nodup_append] at nd
      intro hh
      exact nd.2.2 _ hh _ (by simp) rfl
    have : g.e ∈ (leftOf (G.map GFile.e).toArray (done.map (·.born)).toArray).toList := by
      unfold leftOf
      rw [Array.toList_filter, List.mem_filter]
      refine ⟨by simpa using List.mem_map_of_mem hg, ?_⟩
      have : (done.map (·.born)).toArray.contains g.e.born = false := by simpa [GFile.e] using h3
      rw [this]; rfl
    rw [← Array.length_toList] at he
    rw [List.eq_nil_of_length_eq_zero he] at this
    cases this
theorem perm_step {G done A B : List GFile} {g : GFile} (hp : (done ++ (A ++ g :: B)).Perm G) : ((done ++ [g]) ++ (A ++ B)).Perm G := by
  refine List.Perm.trans ?_ hp
  rw [List.append_assoc]
  exact List.Perm.append_left done (show (g :: (A ++ B)).Perm (A ++ g :: B) from List.perm_middle.symm)
theorem sum_perm {G done rest : List GFile} (hp : (done ++ rest).Perm G) : (done.map fun g => g.F.size).sum + (rest.map fun g => g.F.size).sum = sizeF (G.map fun g => (g.name, g.F)) := by
  unfold sizeF
  rw [List.map_map, ← List.sum_append_nat, ← List.map_append]
  exact (hp.map _).sum_nat
theorem seen_push (done : List GFile) (g : GFile) : (done.map (·.born)).toArray.push g.e.born = ((done ++ [g]).map (·.born)).toArray := by
  simp [GFile.e]
theorem born_lt {G : List GFile} {clk : Nat} (lb : ∀ g ∈ G, g.born < clk) : ∀ e ∈ (G.map GFile.e).toArray.toList, e.born < clk := by
  intro e he
  obtain ⟨g, hg, rfl⟩ := List.mem_map.1 he
  exact lb g hg
theorem born_nd {G : List GFile} (nb : (G.map (·.born)).Nodup) : ((G.map GFile.e).toArray.toList.map (·.born)).Nodup := by
  show ((G.map GFile.e).map (·.born)).Nodup
  rw [List.map_map]; exact nb

theorem disk_size_c (E : EnvT tab) {κ : Pal} {H : Heap} {d : Nat} {D : DiskF} (R : DiskR κ H d D) (ok : D.ok) :
    ACallN E.toEnv n_disk_Disk_size [ptrV d] H fun v H' => H.le H' ∧ v = .int .i64 (sizeF D.files : Nat) := by
  obtain ⟨G, r, clk, V⟩ := R
  refine acall h_disk_Disk_size ir_disk_Disk_size rfl rfl (wpA_sound ?_)
  unfold ir_disk_Disk_size
  have c1 : hcell H ⟨d, 1, none⟩ = some (.map (some r)) := by rw [hcell_at V.qd (by simp)]; rfl
  have ma : mapAt H r = some ((G.map GFile.e).toArray, clk) := by simp [mapAt, V.qr]
  simp -implicitDefEqProofs only [zB1,zB2,zB3,zB4,zB5,zB6,zB7,zB8,zB9,zB10,zB11,y00,y01,y02,y03,y04,y05,y06,y07,y08,y09,y0a,y0b,y0c,y0d,y0e,y0f,y0g,y0h,y0i,y0j,y0k,y0l,y0m,y0n,y0o,y0p,y0q,y0r,y0s,y0t,y0u,y0v,y0w,y0x,y0y,y0z,y10,y11,y12,y13,y14,y15,y16,y17,y18,y19,y1a,y1b,y1c,y1d,y1e,y1f,y1g,y1h,y1i,y1j,y1k,y1l,y1m,y1n,y1o,y1p,y1q,y1r,retO,retL,retV,z6i,allV,allP,z6j,z6m,z6n,z6t,z6u,z6v,binV,eqV,unV,oOpt,reduceIte,reduceCtorEq,Nat.reduceEqDiff,Nat.reduceAdd,Nat.reduceMul,Nat.reduceLT,Nat.reduceSub,Int.reduceLT,Int.reduceLE,Int.reduceEq,Int.reduceNe,Int.reduceSub,Int.reduceAdd,Int.reduceMul,Int.reduceBEq,Int.reduceBNe,Int.reduceGT,Int.reduceGE,Nat.reduceGT,Int.reduceToNat,Int.reduceNeg,Nat.reduceLeDiff,Nat.reduceBEq,Nat.reduceBneDiff,Value.cells, c1]
  refine rangeP_map ma ?_
  intro b hb
  simp -implicitDefEqProofs only [zB1,zB2,zB3,zB4,zB5,zB6,zB7,zB8,zB9,zB10,zB11,y00,y01,y02,y03,y04,y05,y06,y07,y08,y09,y0a,y0b,y0c,y0d,y0e,y0f,y0g,y0h,y0i,y0j,y0k,y0l,y0m,y0n,y0o,y0p,y0q,y0r,y0s,y0t,y0u,y0v,y0w,y0x,y0y,y0z,y10,y11,y12,y13,y14,y15,y16,y17,y18,y19,y1a,y1b,y1c,y1d,y1e,y1f,y1g,y1h,y1i,y1j,y1k,y1l,y1m,y1n,y1o,y1p,y1q,y1r,retO,retL,retV,z6i,allV,allP,z6j,z6m,z6n,z6t,z6u,z6v,binV,eqV,unV,oOpt,reduceIte,reduceCtorEq,Nat.reduceEqDiff,Nat.reduceAdd,Nat.reduceMul,Nat.reduceLT,Nat.reduceSub,Int.reduceLT,Int.reduceLE,Int.reduceEq,Int.reduceNe,Int.reduceSub,Int.reduceAdd,Int.reduceMul,Int.reduceBEq,Int.reduceBNe,Int.reduceGT,Int.reduceGE,Nat.reduceGT,Int.reduceToNat,Int.reduceNeg,Nat.reduceLeDiff,Nat.reduceBEq,Nat.reduceBneDiff,Value.cells]
  refine wp_loop' (fun m t K => ∃ done rest : List GFile, (done ++ rest).Perm G ∧ t = tl [(3, .int .i64 ((done.map fun g => g.F.size).sum : Nat)), (10, ptrV b)] ∧ m = rest.length ∧ H.le K ∧ K b = some (.obj (.mapIter (some r) clk (done.map (·.born)).toArray clk))) G.length
    ⟨[], G, List.Perm.refl _, rfl, rfl, Heap.le_set (Heap.le_refl _) hb _, Heap.set_self _ _ _⟩ ?_
  rintro m t K ⟨done, rest, hp, rfl, rfl, leK, qb⟩
  have VK := V.le leK
  have maK : ∀ K', H.le K' → mapAt K' r = some ((G.map GFile.e).toArray, clk) := fun K' x => by simp [mapAt, (V.le x).qr]
  have sz := ok.2.1
  rw [V.files] at sz
  have sp := sum_perm hp
  simp -implicitDefEqProofs only [zB1,zB2,zB3,zB4,zB5,zB6,zB7,zB8,zB9,zB10,zB11,y00,y01,y02,y03,y04,y05,y06,y07,y08,y09,y0a,y0b,y0c,y0d,y0e,y0f,y0g,y0h,y0i,y0j,y0k,y0l,y0m,y0n,y0o,y0p,y0q,y0r,y0s,y0t,y0u,y0v,y0w,y0x,y0y,y0z,y10,y11,y12,y13,y14,y15,y16,y17,y18,y19,y1a,y1b,y1c,y1d,y1e,y1f,y1g,y1h,y1i,y1j,y1k,y1l,y1m,y1n,y1o,y1p,y1q,y1r,retO,retL,retV,z6i,allV,allP,z6j,z6m,z6n,z6t,z6u,z6v,binV,eqV,unV,oOpt,reduceIte,reduceCtorEq,Nat.reduceEqDiff,Nat.reduceAdd,Nat.reduceMul,Nat.reduceLT,Nat.reduceSub,Int.reduceLT,Int.reduceLE,Int.reduceEq,Int.reduceNe,Int.reduceSub,Int.reduceAdd,Int.reduceMul,Int.reduceBEq,Int.reduceBNe,Int.reduceGT,Int.reduceGE,Nat.reduceGT,Int.reduceToNat,Int.reduceNeg,Nat.reduceLeDiff,Nat.reduceBEq,Nat.reduceBneDiff,Value.cells]
  refine nextP_map qb (maK K leK) (born_lt V.lb) (Nat.le_refl _) ?_ ?_
  · intro h0
    have := left_none hp V.nb h0
    subst this
    simp -implicitDefEqProofs only [zB1,zB2,zB3,zB4,zB5,zB6,zB7,zB8,zB9,zB10,zB11,y00,y01,y02,y03,y04,y05,y06,y07,y08,y09,y0a,y0b,y0c,y0d,y0e,y0f,y0g,y0h,y0i,y0j,y0k,y0l,y0m,y0n,y0o,y0p,y0q,y0r,y0s,y0t,y0u,y0v,y0w,y0x,y0y,y0z,y10,y11,y12,y13,y14,y15,y16,y17,y18,y19,y1a,y1b,y1c,y1d,y1e,y1f,y1g,y1h,y1i,y1j,y1k,y1l,y1m,y1n,y1o,y1p,y1q,y1r,retO,retL,retV,z6i,allV,allP,z6j,z6m,z6n,z6t,z6u,z6v,binV,eqV,unV,oOpt,reduceIte,reduceCtorEq,Nat.reduceEqDiff,Nat.reduceAdd,Nat.reduceMul,Nat.reduceLT,Nat.reduceSub,Int.reduceLT,Int.reduceLE,Int.reduceEq,Int.reduceNe,Int.reduceSub,Int.reduceAdd,Int.reduceMul,Int.reduceBEq,Int.reduceBNe,Int.reduceGT,Int.reduceGE,Nat.reduceGT,Int.reduceToNat,Int.reduceNeg,Nat.reduceLeDiff,Nat.reduceBEq,Nat.reduceBneDiff,Value.cells]
    rw [V.files, ← sp]
    exact ⟨leK, by simp⟩
  · intro e he
    obtain ⟨A, g, B, rfl, rfl⟩ := left_mem hp V.nb he
    have hg : g ∈ G := hp.mem_iff.1 (by simp)
    have leK1 : H.le (K.set b (.obj (.mapIter (some r) clk ((done.map (·.born)).toArray.push g.e.born) clk))) := Heap.le_set leK hb _
    rw [seen_push] at leK1 ⊢
    have qb1 : (K.set b (.obj (.mapIter (some r) clk ((done ++ [g]).map (·.born)).toArray clk))) b = some (.obj (.mapIter (some r) clk ((done ++ [g]).map (·.born)).toArray clk)) := Heap.set_self _ _ _
    generalize (K.set b (.obj (.mapIter (some r) clk ((done ++ [g]).map (·.born)).toArray clk))) = K1 at leK1 qb1 ⊢
    have en : entryV K1 (.pointer (some ⟨b, 0, none⟩)) = some (.tuple #[g.e.key, g.e.val]) := by
      refine entryV_map (en := g.e) (c0 := clk) (m := r) (since := clk) (seen := (done.map (·.born)).toArray) ?_ (maK K1 leK1) (by simpa using List.mem_map_of_mem hg) (born_nd V.nb)
      rw [qb1, seen_push]
    simp -implicitDefEqProofs only [zB1,zB2,zB3,zB4,zB5,zB6,zB7,zB8,zB9,zB10,zB11,y00,y01,y02,y03,y04,y05,y06,y07,y08,y09,y0a,y0b,y0c,y0d,y0e,y0f,y0g,y0h,y0i,y0j,y0k,y0l,y0m,y0n,y0o,y0p,y0q,y0r,y0s,y0t,y0u,y0v,y0w,y0x,y0y,y0z,y10,y11,y12,y13,y14,y15,y16,y17,y18,y19,y1a,y1b,y1c,y1d,y1e,y1f,y1g,y1h,y1i,y1j,y1k,y1l,y1m,y1n,y1o,y1p,y1q,y1r,retO,retL,retV,z6i,allV,allP,z6j,z6m,z6n,z6t,z6u,z6v,binV,eqV,unV,oOpt,reduceIte,reduceCtorEq,Nat.reduceEqDiff,Nat.reduceAdd,Nat.reduceMul,Nat.reduceLT,Nat.reduceSub,Int.reduceLT,Int.reduceLE,Int.reduceEq,Int.reduceNe,Int.reduceSub,Int.reduceAdd,Int.reduceMul,Int.reduceBEq,Int.reduceBNe,Int.reduceGT,Int.reduceGE,Nat.reduceGT,Int.reduceToNat,Int.reduceNeg,Nat.reduceLeDiff,Nat.reduceBEq,Nat.reduceBneDiff,Value.cells, en]
    have okg : g.F.ok := (ok.1 (g.name, g.F) (by rw [V.files]; exact List.mem_map_of_mem hg)).1
    refine (file_size_c E ((V.R g hg).le leK1) okg).mono ?_
    rintro v K2 ⟨rfl, rfl⟩
    have e2 : ((done ++ [g]).map fun g => g.F.size).sum = (done.map fun g => g.F.size).sum + g.F.size := by simp
    have e3 : ((A ++ g :: B).map fun g => g.F.size).sum = (A.map fun g => g.F.size).sum + (g.F.size + (B.map fun g => g.F.size).sum) := by simp
    have w : IntKind.i64.wrap (((done.map fun g => g.F.size).sum : Nat) + (g.F.size : Nat)) = ((((done ++ [g]).map fun g => g.F.size).sum : Nat) : Int) := by
      rw [wrapI (by omega) (by omega), e2]; omega
    simp -implicitDefEqProofs only [zB1,zB2,zB3,zB4,zB5,zB6,zB7,zB8,zB9,zB10,zB11,y00,y01,y02,y03,y04,y05,y06,y07,y08,y09,y0a,y0b,y0c,y0d,y0e,y0f,y0g,y0h,y0i,y0j,y0k,y0l,y0m,y0n,y0o,y0p,y0q,y0r,y0s,y0t,y0u,y0v,y0w,y0x,y0y,y0z,y10,y11,y12,y13,y14,y15,y16,y17,y18,y19,y1a,y1b,y1c,y1d,y1e,y1f,y1g,y1h,y1i,y1j,y1k,y1l,y1m,y1n,y1o,y1p,y1q,y1r,retO,retL,retV,z6i,allV,allP,z6j,z6m,z6n,z6t,z6u,z6v,binV,eqV,unV,oOpt,reduceIte,reduceCtorEq,Nat.reduceEqDiff,Nat.reduceAdd,Nat.reduceMul,Nat.reduceLT,Nat.reduceSub,Int.reduceLT,Int.reduceLE,Int.reduceEq,Int.reduceNe,Int.reduceSub,Int.reduceAdd,Int.reduceMul,Int.reduceBEq,Int.reduceBNe,Int.reduceGT,Int.reduceGE,Nat.reduceGT,Int.reduceToNat,Int.reduceNeg,Nat.reduceLeDiff,Nat.reduceBEq,Nat.reduceBneDiff,Value.cells, w]
    exact ⟨_, by simp, done ++ [g], A ++ B, perm_step hp, rfl, rfl, leK1, qb1⟩
theorem disk_Size_c (E : EnvT tab) {κ : Pal} {H : Heap} {d : Nat} {D : DiskF} (R : DiskR κ H d D) (ok : D.ok) :
    ACallN E.toEnv n_disk_Disk_Size [ptrV d] H fun v H' => H.le H' ∧ v = .int .i64 ((if D.on then sizeF D.files else 0 : Nat) : Int) := by
  obtain ⟨G, r, clk, V⟩ := R
  refine acall h_disk_Disk_Size ir_disk_Disk_Size rfl rfl (wpA_sound ?_)
  unfold ir_disk_Disk_Size
  have c2 : hcell H ⟨d, 2, none⟩ = some (.bool D.on) := by rw [hcell_at V.qd (by simp)]; rfl
  by_cases on : D.on = true
  · simp -implicitDefEqProofs only [zB1,zB2,zB3,zB4,zB5,zB6,zB7,zB8,zB9,zB10,zB11,y00,y01,y02,y03,y04,y05,y06,y07,y08,y09,y0a,y0b,y0c,y0d,y0e,y0f,y0g,y0h,y0i,y0j,y0k,y0l,y0m,y0n,y0o,y0p,y0q,y0r,y0s,y0t,y0u,y0v,y0w,y0x,y0y,y0z,y10,y11,y12,y13,y14,y15,y16,y17,y18,y19,y1a,y1b,y1c,y1d,y1e,y1f,y1g,y1h,y1i,y1j,y1k,y1l,y1m,y1n,y1o,y1p,y1q,y1r,retO,retL,retV,z6i,allV,allP,z6j,z6m,z6n,z6t,z6u,z6v,binV,eqV,unV,oOpt,reduceIte,reduceCtorEq,Nat.reduceEqDiff,Nat.reduceAdd,Nat.reduceMul,Nat.reduceLT,Nat.reduceSub,Int.reduceLT,Int.reduceLE,Int.reduceEq,Int.reduceNe,Int.reduceSub,Int.reduceAdd,Int.reduceMul,Int.reduceBEq,Int.reduceBNe,Int.reduceGT,Int.reduceGE,Nat.reduceGT,Int.reduceToNat,Int.reduceNeg,Nat.reduceLeDiff,Nat.reduceBEq,Nat.reduceBneDiff,Value.cells, c2, on]
    refine (disk_size_c E ⟨G, r, clk, V⟩ ok).mono ?_
    rintro v K ⟨le, rfl⟩
    simp -implicitDefEqProofs only [zB1,zB2,zB3,zB4,zB5,zB6,zB7,zB8,zB9,zB10,zB11,y00,y01,y02,y03,y04,y05,y06,y07,y08,y09,y0a,y0b,y0c,y0d,y0e,y0f,y0g,y0h,y0i,y0j,y0k,y0l,y0m,y0n,y0o,y0p,y0q,y0r,y0s,y0t,y0u,y0v,y0w,y0x,y0y,y0z,y10,y11,y12,y13,y14,y15,y16,y17,y18,y19,y1a,y1b,y1c,y1d,y1e,y1f,y1g,y1h,y1i,y1j,y1k,y1l,y1m,y1n,y1o,y1p,y1q,y1r,retO,retL,retV,z6i,allV,allP,z6j,z6m,z6n,z6t,z6u,z6v,binV,eqV,unV,oOpt,reduceIte,reduceCtorEq,Nat.reduceEqDiff,Nat.reduceAdd,Nat.reduceMul,Nat.reduceLT,Nat.reduceSub,Int.reduceLT,Int.reduceLE,Int.reduceEq,Int.reduceNe,Int.reduceSub,Int.reduceAdd,Int.reduceMul,Int.reduceBEq,Int.reduceBNe,Int.reduceGT,Int.reduceGE,Nat.reduceGT,Int.reduceToNat,Int.reduceNeg,Nat.reduceLeDiff,Nat.reduceBEq,Nat.reduceBneDiff,Value.cells]
    exact le
  · simp -implicitDefEqProofs only [zB1,zB2,zB3,zB4,zB5,zB6,zB7,zB8,zB9,zB10,zB11,y00,y01,y02,y03,y04,y05,y06,y07,y08,y09,y0a,y0b,y0c,y0d,y0e,y0f,y0g,y0h,y0i,y0j,y0k,y0l,y0m,y0n,y0o,y0p,y0q,y0r,y0s,y0t,y0u,y0v,y0w,y0x,y0y,y0z,y10,y11,y12,y13,y14,y15,y16,y17,y18,y19,y1a,y1b,y1c,y1d,y1e,y1f,y1g,y1h,y1i,y1j,y1k,y1l,y1m,y1n,y1o,y1p,y1q,y1r,retO,retL,retV,z6i,allV,allP,z6j,z6m,z6n,z6t,z6u,z6v,binV,eqV,unV,oOpt,reduceIte,reduceCtorEq,Nat.reduceEqDiff,Nat.reduceAdd,Nat.reduceMul,Nat.reduceLT,Nat.reduceSub,Int.reduceLT,Int.reduceLE,Int.reduceEq,Int.reduceNe,Int.reduceSub,Int.reduceAdd,Int.reduceMul,Int.reduceBEq,Int.reduceBNe,Int.reduceGT,Int.reduceGE,Nat.reduceGT,Int.reduceToNat,Int.reduceNeg,Nat.reduceLeDiff,Nat.reduceBEq,Nat.reduceBneDiff,Value.cells, c2, on]
    exact Heap.le_refl _
theorem disk_Power_c (E : EnvT tab) {κ : Pal} {H : Heap} {d : Nat} {D : DiskF} (R : DiskR κ H d D) : ACallN E.toEnv n_disk_Disk_Power [ptrV d] H fun v H' => H' = H ∧ v = .bool D.on := by
  obtain ⟨G, r, clk, V⟩ := R
  refine acall h_disk_Disk_Power ir_disk_Disk_Power rfl rfl (wpA_sound ?_)
  unfold ir_disk_Disk_Power
  have c2 : hcell H ⟨d, 2, none⟩ = some (.bool D.on) := by rw [hcell_at V.qd (by simp)]; rfl
  simp -implicitDefEqProofs only [zB1,zB2,zB3,zB4,zB5,zB6,zB7,zB8,zB9,zB10,zB11,y00,y01,y02,y03,y04,y05,y06,y07,y08,y09,y0a,y0b,y0c,y0d,y0e,y0f,y0g,y0h,y0i,y0j,y0k,y0l,y0m,y0n,y0o,y0p,y0q,y0r,y0s,y0t,y0u,y0v,y0w,y0x,y0y,y0z,y10,y11,y12,y13,y14,y15,y16,y17,y18,y19,y1a,y1b,y1c,y1d,y1e,y1f,y1g,y1h,y1i,y1j,y1k,y1l,y1m,y1n,y1o,y1p,y1q,y1r,retO,retL,retV,z6i,allV,allP,z6j,z6m,z6n,z6t,z6u,z6v,binV,eqV,unV,oOpt,reduceIte,reduceCtorEq,Nat.reduceEqDiff,Nat.reduceAdd,Nat.reduceMul,Nat.reduceLT,Nat.reduceSub,Int.reduceLT,Int.reduceLE,Int.reduceEq,Int.reduceNe,Int.reduceSub,Int.reduceAdd,Int.reduceMul,Int.reduceBEq,Int.reduceBNe,Int.reduceGT,Int.reduceGE,Nat.reduceGT,Int.reduceToNat,Int.reduceNeg,Nat.reduceLeDiff,Nat.reduceBEq,Nat.reduceBneDiff,Value.cells, c2]
theorem disk_Lives_c (E : EnvT tab) {κ : Pal} {H : Heap} {d : Nat} {D : DiskF} (R : DiskR κ H d D) : ACallN E.toEnv n_disk_Disk_Lives [ptrV d] H fun v H' => H' = H ∧ v = .int .i64 D.lives := by
  obtain ⟨G, r, clk, V⟩ := R
  refine acall h_disk_Disk_Lives ir_disk_Disk_Lives rfl rfl (wpA_sound ?_)
  unfold ir_disk_Disk_Lives
  have c2 : hcell H ⟨d, 3, none⟩ = some (.int .i64 D.lives) := by rw [hcell_at V.qd (by simp)]; rfl
  simp -implicitDefEqProofs only [zB1,zB2,zB3,zB4,zB5,zB6,zB7,zB8,zB9,zB10,zB11,y00,y01,y02,y03,y04,y05,y06,y07,y08,y09,y0a,y0b,y0c,y0d,y0e,y0f,y0g,y0h,y0i,y0j,y0k,y0l,y0m,y0n,y0o,y0p,y0q,y0r,y0s,y0t,y0u,y0v,y0w,y0x,y0y,y0z,y10,y11,y12,y13,y14,y15,y16,y17,y18,y19,y1a,y1b,y1c,y1d,y1e,y1f,y1g,y1h,y1i,y1j,y1k,y1l,y1m,y1n,y1o,y1p,y1q,y1r,retO,retL,retV,z6i,allV,allP,z6j,z6m,z6n,z6t,z6u,z6v,binV,eqV,unV,oOpt,reduceIte,reduceCtorEq,Nat.reduceEqDiff,Nat.reduceAdd,Nat.reduceMul,Nat.reduceLT,Nat.reduceSub,Int.reduceLT,Int.reduceLE,Int.reduceEq,Int.reduceNe,Int.reduceSub,Int.reduceAdd,Int.reduceMul,Int.reduceBEq,Int.reduceBNe,Int.reduceGT,Int.reduceGE,Nat.reduceGT,Int.reduceToNat,Int.reduceNeg,Nat.reduceLeDiff,Nat.reduceBEq,Nat.reduceBneDiff,Value.cells, c2]
theorem disk_Read_c (E : EnvT tab) {κ : Pal} {H : Heap} {d : Nat} {D : DiskF} (R : DiskR κ H d D) (ok : D.ok) (s : List UInt8) (hs : s.length ≤ 9000000000000000000) :
    ACallN E.toEnv n_disk_Disk_Read [ptrV d, strV s] H fun v H' => H.le H' ∧ ∃ b c, v = .tuple #[.slice b (readF D s).1.length c, .int .i64 ((readF D s).2 : Nat)] ∧ OwB H H' (.slice b (readF D s).1.length c) (readF D s).1 := by
  obtain ⟨G, r, clk, V⟩ := R
  refine acall h_disk_Disk_Read ir_disk_Disk_Read rfl rfl (wpA_sound ?_)
  unfold ir_disk_Disk_Read
  simp -implicitDefEqProofs only [zB1,zB2,zB3,zB4,zB5,zB6,zB7,zB8,zB9,zB10,zB11,y00,y01,y02,y03,y04,y05,y06,y07,y08,y09,y0a,y0b,y0c,y0d,y0e,y0f,y0g,y0h,y0i,y0j,y0k,y0l,y0m,y0n,y0o,y0p,y0q,y0r,y0s,y0t,y0u,y0v,y0w,y0x,y0y,y0z,y10,y11,y12,y13,y14,y15,y16,y17,y18,y19,y1a,y1b,y1c,y1d,y1e,y1f,y1g,y1h,y1i,y1j,y1k,y1l,y1m,y1n,y1o,y1p,y1q,y1r,retO,retL,retV,z6i,allV,allP,z6j,z6m,z6n,z6t,z6u,z6v,binV,eqV,unV,oOpt,reduceIte,reduceCtorEq,Nat.reduceEqDiff,Nat.reduceAdd,Nat.reduceMul,Nat.reduceLT,Nat.reduceSub,Int.reduceLT,Int.reduceLE,Int.reduceEq,Int.reduceNe,Int.reduceSub,Int.reduceAdd,Int.reduceMul,Int.reduceBEq,Int.reduceBNe,Int.reduceGT,Int.reduceGE,Nat.reduceGT,Int.reduceToNat,Int.reduceNeg,Nat.reduceLeDiff,Nat.reduceBEq,Nat.reduceBneDiff,Value.cells]
  refine (disk_find_c E V s hs).mono ?_
  rintro v H1 ⟨le1, h⟩
  unfold readF
  rw [V.files]
  rcases h with ⟨e, rfl⟩ | ⟨e, l, rfl⟩ | ⟨e, A, g, B, rfl, l, hg, rfl⟩
  · rw [if_neg e]
    have e' : ¬ ((askF D [s] : Nat) : Int) = 0 := by omega
    simp -implicitDefEqProofs only [zB1,zB2,zB3,zB4,zB5,zB6,zB7,zB8,zB9,zB10,zB11,y00,y01,y02,y03,y04,y05,y06,y07,y08,y09,y0a,y0b,y0c,y0d,y0e,y0f,y0g,y0h,y0i,y0j,y0k,y0l,y0m,y0n,y0o,y0p,y0q,y0r,y0s,y0t,y0u,y0v,y0w,y0x,y0y,y0z,y10,y11,y12,y13,y14,y15,y16,y17,y18,y19,y1a,y1b,y1c,y1d,y1e,y1f,y1g,y1h,y1i,y1j,y1k,y1l,y1m,y1n,y1o,y1p,y1q,y1r,retO,retL,retV,z6i,allV,allP,z6j,z6m,z6n,z6t,z6u,z6v,binV,eqV,unV,oOpt,reduceIte,reduceCtorEq,Nat.reduceEqDiff,Nat.reduceAdd,Nat.reduceMul,Nat.reduceLT,Nat.reduceSub,Int.reduceLT,Int.reduceLE,Int.reduceEq,Int.reduceNe,Int.reduceSub,Int.reduceAdd,Int.reduceMul,Int.reduceBEq,Int.reduceBNe,Int.reduceGT,Int.reduceGE,Nat.reduceGT,Int.reduceToNat,Int.reduceNeg,Nat.reduceLeDiff,Nat.reduceBEq,Nat.reduceBneDiff,Value.cells, e']
    exact ⟨le1, none, 0, rfl, Ow.nil _ _ _⟩
  · rw [if_pos e, look_lack l]
    simp -implicitDefEqProofs only [zB1,zB2,zB3,zB4,zB5,zB6,zB7,zB8,zB9,zB10,zB11,y00,y01,y02,y03,y04,y05,y06,y07,y08,y09,y0a,y0b,y0c,y0d,y0e,y0f,y0g,y0h,y0i,y0j,y0k,y0l,y0m,y0n,y0o,y0p,y0q,y0r,y0s,y0t,y0u,y0v,y0w,y0x,y0y,y0z,y10,y11,y12,y13,y14,y15,y16,y17,y18,y19,y1a,y1b,y1c,y1d,y1e,y1f,y1g,y1h,y1i,y1j,y1k,y1l,y1m,y1n,y1o,y1p,y1q,y1r,retO,retL,retV,z6i,allV,allP,z6j,z6m,z6n,z6t,z6u,z6v,binV,eqV,unV,oOpt,reduceIte,reduceCtorEq,Nat.reduceEqDiff,Nat.reduceAdd,Nat.reduceMul,Nat.reduceLT,Nat.reduceSub,Int.reduceLT,Int.reduceLE,Int.reduceEq,Int.reduceNe,Int.reduceSub,Int.reduceAdd,Int.reduceMul,Int.reduceBEq,Int.reduceBNe,Int.reduceGT,Int.reduceGE,Nat.reduceGT,Int.reduceToNat,Int.reduceNeg,Nat.reduceLeDiff,Nat.reduceBEq,Nat.reduceBneDiff,Value.cells]
    exact ⟨le1, none, 0, rfl, Ow.nil _ _ _⟩
  · rw [if_pos e, look_some l hg]
    simp -implicitDefEqProofs only [zB1,zB2,zB3,zB4,zB5,zB6,zB7,zB8,zB9,zB10,zB11,y00,y01,y02,y03,y04,y05,y06,y07,y08,y09,y0a,y0b,y0c,y0d,y0e,y0f,y0g,y0h,y0i,y0j,y0k,y0l,y0m,y0n,y0o,y0p,y0q,y0r,y0s,y0t,y0u,y0v,y0w,y0x,y0y,y0z,y10,y11,y12,y13,y14,y15,y16,y17,y18,y19,y1a,y1b,y1c,y1d,y1e,y1f,y1g,y1h,y1i,y1j,y1k,y1l,y1m,y1n,y1o,y1p,y1q,y1r,retO,retL,retV,z6i,allV,allP,z6j,z6m,z6n,z6t,z6u,z6v,binV,eqV,unV,oOpt,reduceIte,reduceCtorEq,Nat.reduceEqDiff,Nat.reduceAdd,Nat.reduceMul,Nat.reduceLT,Nat.reduceSub,Int.reduceLT,Int.reduceLE,Int.reduceEq,Int.reduceNe,Int.reduceSub,Int.reduceAdd,Int.reduceMul,Int.reduceBEq,Int.reduceBNe,Int.reduceGT,Int.reduceGE,Nat.reduceGT,Int.reduceToNat,Int.reduceNeg,Nat.reduceLeDiff,Nat.reduceBEq,Nat.reduceBneDiff,Value.cells]
    have hm : g ∈ A ++ g :: B := by simp
    have okg : g.F.ok := (ok.1 (g.name, g.F) (by rw [V.files]; exact List.mem_map_of_mem hm)).1
    refine (file_all_c E ((V.R g hm).le le1) okg).mono ?_
    rintro v H2 ⟨le2, o⟩
    obtain ⟨b, c, rfl⟩ := Sl.shape o.sl
    simp -implicitDefEqProofs only [zB1,zB2,zB3,zB4,zB5,zB6,zB7,zB8,zB9,zB10,zB11,y00,y01,y02,y03,y04,y05,y06,y07,y08,y09,y0a,y0b,y0c,y0d,y0e,y0f,y0g,y0h,y0i,y0j,y0k,y0l,y0m,y0n,y0o,y0p,y0q,y0r,y0s,y0t,y0u,y0v,y0w,y0x,y0y,y0z,y10,y11,y12,y13,y14,y15,y16,y17,y18,y19,y1a,y1b,y1c,y1d,y1e,y1f,y1g,y1h,y1i,y1j,y1k,y1l,y1m,y1n,y1o,y1p,y1q,y1r,retO,retL,retV,z6i,allV,allP,z6j,z6m,z6n,z6t,z6u,z6v,binV,eqV,unV,oOpt,reduceIte,reduceCtorEq,Nat.reduceEqDiff,Nat.reduceAdd,Nat.reduceMul,Nat.reduceLT,Nat.reduceSub,Int.reduceLT,Int.reduceLE,Int.reduceEq,Int.reduceNe,Int.reduceSub,Int.reduceAdd,Int.reduceMul,Int.reduceBEq,Int.reduceBNe,Int.reduceGT,Int.reduceGE,Nat.reduceGT,Int.reduceToNat,Int.reduceNeg,Nat.reduceLeDiff,Nat.reduceBEq,Nat.reduceBneDiff,Value.cells]
    exact ⟨Heap.le_trans le1 le2, b, c, rfl, o.since le1⟩
end Go.Bb
/- Contracts: disks that change. -/
namespace Go.Bb
set_option linter.unusedSimpArgs false
set_option linter.unusedVariables false
set_option maxRecDepth 20000
set_option maxHeartbeats 2000000

abbrev nF (G : List GFile) : Files := G.map fun g => (g.name, g.F)
theorem ext_d {κ κ' : Pal} {H H' : Heap} {d x : Nat} (h : Ext (· = (d, d, x)) κ H κ' H') : Ext (diskC d) κ H κ' H' := h.mono fun c e => by subst e; rfl
theorem ext_f {κ κ' : Pal} {H H' : Heap} {d f : Nat} (h : Ext (fileC d f) κ H κ' H') : Ext (diskC d) κ H κ' H' := h.mono fun c e => e.1
theorem DiskV.set_d {κ : Pal} {H : Heap} {d : Nat} {D : DiskF} {G : List GFile} {r clk : Nat} (V : DiskV κ H d D G r clk) (on : Bool) (lives : Int) :
    DiskV κ (H.set d (.own 0 [.int .i64 D.room, .map (some r), .bool on, .int .i64 lives] 4)) d { D with on := on, lives := lives } G r clk := by
  have e := Ext.set (H := H) V.kd (.own 0 [.int .i64 D.room, .map (some r), .bool on, .int .i64 lives] 4)
  exact ⟨V.kd, Heap.set_self _ _ _, V.kr, (e.blk V.kr (by simp) V.qr).1, V.files, V.nf, V.nn, V.nb, V.lb, fun g hg => (V.R g hg).ext e fun r hr q => by simp at q; omega⟩
theorem DiskV.set_r {κ : Pal} {H : Heap} {d : Nat} {D : DiskF} {G : List GFile} {r clk : Nat} (V : DiskV κ H d D G r clk) (G' : List GFile) (clk' : Nat) (nf : (G'.map (·.f)).Nodup) (nn : (G'.map (·.name)).Nodup) (nb : (G'.map (·.born)).Nodup) (lb : ∀ g ∈ G', g.born < clk') (R : ∀ g ∈ G', FileR κ H d g.f g.F) :
    DiskV κ (H.set r (.obj (.map (G'.map GFile.e).toArray clk'))) d { D with files := nF G' } G' r clk' := by
  have e := Ext.set (H := H) V.kr (.obj (.map (G'.map GFile.e).toArray clk'))
  exact ⟨V.kd, (e.blk V.kd (by simp) V.qd).1, V.kr, Heap.set_self _ _ _, rfl, nf, nn, nb, lb, fun g hg => (R g hg).ext e fun r hr q => by simp at q; omega⟩
theorem DiskV.file {κ κ' : Pal} {H H' : Heap} {d : Nat} {D : DiskF} {A B : List GFile} {g : GFile} {r clk : Nat} (V : DiskV κ H d D (A ++ g :: B) r clk) {F' : FileF} (e : Ext (fileC d g.f) κ H κ' H') (R : FileR κ' H' d g.f F') :
    DiskV κ' H' d { D with files := nF (A ++ { g with F := F' } :: B) } (A ++ { g with F := F' } :: B) r clk := by
  obtain ⟨g1, g2⟩ := e.blk V.kd (fun q => by have := q.2.2; simp at this) V.qd
  obtain ⟨g3, g4⟩ := e.blk V.kr (fun q => by have := q.2.2; simp at this) V.qr
  have nf := V.nf
  refine ⟨g2, g1, g4, ?_, rfl, ?_, ?_, ?_, ?_, ?_⟩
  · rw [g3]; simp [GFile.e]
  · simpa using V.nf
  · simpa using V.nn
  · simpa using V.nb
  · intro x hx
    rcases List.mem_append.1 hx with hx | hx
    · exact V.lb x (by simp [hx])
    · rcases List.mem_cons.1 hx with rfl | hx
      · exact V.lb g (by simp)
      · exact V.lb x (by simp [hx])
  · rw [List.map_append, List.map_cons, List.nodup_append] at nf
    obtain ⟨n1, n2, n3⟩ := nf
    rw [List.nodup_cons] at n2
    intro x hx
    rcases List.mem_append.1 hx with hx | hx
    · refine (V.R x (by simp [hx])).ext e fun r hr q => ?_
      exact n3 x.f (List.mem_map_of_mem hx) g.f (by simp) q.2.1
    · rcases List.mem_cons.1 hx with rfl | hx
      · exact R
      · refine (V.R x (by simp [hx])).ext e fun r hr q => ?_
        exact n2.1 (by rw [← show x.f = g.f from q.2.1]; exact List.mem_map_of_mem hx)
theorem nn_parts {A B : List GFile} {g : GFile} (nn : ((A ++ g :: B).map (·.name)).Nodup) : Lack A g.name ∧ Lack B g.name := by
  rw [List.map_append, List.map_cons, List.nodup_append] at nn
  obtain ⟨n1, n2, n3⟩ := nn
  rw [List.nodup_cons] at n2
  exact ⟨fun x hx => n3 x.name (List.mem_map_of_mem hx) g.name (by simp), fun x hx e => n2.1 (by rw [← e]; exact List.mem_map_of_mem hx)⟩
theorem turn_lack {A : List GFile} {s : List UInt8} (l : Lack A s) (F : FileF) : turnF' (nF A) s F = nF A := by
  unfold turnF'
  rw [List.map_map]
  apply List.map_congr_left
  intro g hg
  simp [l g hg]
theorem turn_eq {A B : List GFile} {g : GFile} {s : List UInt8} (hs : g.name = s) (nn : ((A ++ g :: B).map (·.name)).Nodup) (F : FileF) : turnF' (nF (A ++ g :: B)) s F = nF (A ++ { g with F := F } :: B) := by
  subst hs
  obtain ⟨l1, l2⟩ := nn_parts nn
  have h1 := turn_lack l1 F
  have h2 := turn_lack l2 F
  unfold nF turnF' at *
  rw [List.map_append, List.map_append, h1, List.map_cons, List.map_cons, h2, List.map_append, List.map_cons]
  simp
theorem del_lack {A : List GFile} {s : List UInt8} (l : Lack A s) : delFile (nF A) s = nF A := by
  unfold delFile
  rw [List.filter_eq_self]
  intro x hx
  obtain ⟨g, hg, rfl⟩ := List.mem_map.1 hx
  simpa using l g hg
theorem del_eq {A B : List GFile} {g : GFile} {s : List UInt8} (hs : g.name = s) (nn : ((A ++ g :: B).map (·.name)).Nodup) : delFile (nF (A ++ g :: B)) s = nF (A ++ B) := by
  subst hs
  obtain ⟨l1, l2⟩ := nn_parts nn
  have h1 := del_lack l1
  have h2 := del_lack l2
  unfold nF delFile at *
  rw [List.map_append, List.filter_append, h1, List.map_cons, List.filter_cons, h2, List.map_append]
  simp
theorem sub_nodup {α : Type} {A B : List GFile} {g : GFile} (p : GFile → α) (n : ((A ++ g :: B).map p).Nodup) : ((A ++ B).map p).Nodup := by
  refine List.Sublist.nodup (List.Sublist.map p ?_) n
  exact List.Sublist.append_left (List.sublist_cons_self g B) A
theorem sub_mem {A B : List GFile} {g x : GFile} (h : x ∈ A ++ B) : x ∈ A ++ g :: B := by
  rcases List.mem_append.1 h with h | h
  · exact List.mem_append.2 (.inl h)
  · exact List.mem_append.2 (.inr (List.mem_cons_of_mem _ h))
theorem sub_new {α : Type} {A B : List GFile} {g : GFile} (p : GFile → α) (n : ((A ++ g :: B).map p).Nodup) : ∀ x ∈ A ++ B, p x ≠ p g := by
  rw [List.map_append, List.map_cons, List.nodup_append] at n
  obtain ⟨n1, n2, n3⟩ := n
  rw [List.nodup_cons] at n2
  intro x hx e
  rcases List.mem_append.1 hx with hx | hx
  · exact n3 (p x) (List.mem_map_of_mem hx) (p g) (by simp) e
  · exact n2.1 (by rw [← e]; exact List.mem_map_of_mem hx)
/-- An entry less. -/
theorem mdel_eq {H : Heap} {A B : List GFile} {g : GFile} {r clk : Nat} {s : List UInt8} (q : H r = some (.obj (.map ((A ++ g :: B).map GFile.e).toArray clk))) (l : Lack A s) (hs : g.name = s) :
    mdelV H .str (.map (some r)) (strV s) = some (H.set r (.obj (.map ((A ++ B).map GFile.e).toArray clk))) := by
  have fv := findG_some (B := B) hs 0 l
  simp only [mdelV, q, show keyFit .str (strV s) = some () from rfl]
  rw [fv]
  simp only [Nat.zero_add]
  congr 4
  apply Array.ext'
  simp only [Array.eraseIdxIfInBounds, List.size_toArray, List.length_map, List.length_append, List.length_cons]
  rw [dif_pos (by omega)]
  simp [List.eraseIdx_append_of_length_le]
/-- An entry more. -/
theorem mupd_new {H : Heap} {G : List GFile} {r clk f : Nat} {s : List UInt8} (F : FileF) (q : H r = some (.obj (.map (G.map GFile.e).toArray clk))) (l : Lack G s) :
    mupdV H .str (.map (some r)) (strV s) (ptrV f) = some (H.set r (.obj (.map ((G ++ [(⟨s, f, clk, F⟩ : GFile)]).map GFile.e).toArray (clk + 1)))) := by
  have fv := findG_none (s := s) 0 l
  simp only [mupdV, q, show keyFit .str (strV s) = some () from rfl]
  rw [fv]
  simp [GFile.e]
/-- An entry that is turned. -/
theorem mupd_old {H : Heap} {A B : List GFile} {g : GFile} {r clk f : Nat} {s : List UInt8} (F : FileF) (q : H r = some (.obj (.map ((A ++ g :: B).map GFile.e).toArray clk))) (l : Lack A s) (hs : g.name = s) :
    mupdV H .str (.map (some r)) (strV s) (ptrV f) = some (H.set r (.obj (.map ((A ++ (⟨s, f, g.born, F⟩ : GFile) :: B).map GFile.e).toArray clk))) := by
  have fv := findG_some (B := B) hs 0 l
  simp only [mupdV, q, show keyFit .str (strV s) = some () from rfl]
  rw [fv]
  simp only [Nat.zero_add]
  congr 4
  apply Array.ext'
  simp only [List.modify_toArray]
  have : ∀ (A : List MapEntry) (x : MapEntry) (B : List MapEntry) (φ : MapEntry → MapEntry), (A ++ x :: B).modify A.length φ = A ++ φ x :: B := by
    intro A x B φ
    induction A with
    | nil => rfl
    | cons a A ih => simp only [List.cons_append, List.length_cons, List.modify_succ_cons, ih]
  have h2 := this (A.map GFile.e) g.e (B.map GFile.e) (fun e => { e with key := strV s, val := ptrV f })
  rw [List.length_map] at h2
  rw [List.map_append, List.map_cons, h2, List.map_append, List.map_cons]
  rfl
end Go.Bb
/- Contracts: a disk's calls that change it. -/
namespace Go.Bb
set_option linter.unusedSimpArgs false
set_option linter.unusedVariables false
set_option maxRecDepth 20000
set_option maxHeartbeats 2000000

theorem file_write {κ : Pal} {G : Heap} {d f : Nat} {F : FileF} {vs vw xv wv : Value} {ws : List Value} {l : List UInt8} {K : Value → Heap → Prop} (R : FileV κ G d f F vs vw ws) (x : Sl G 1 xv 1 [wv]) (ow : OwK κ (d, f, 3) G 1 wv l.length (l.map u8V)) (hb : F.writes.length ≤ 100000)
    (hk : ∀ v G', G' f = some (.own 0 [vs, vw] 2) → (∃ base c, v = .slice base (F.writes.length + 1) c) → (∃ κ', Ext (fileC d f) κ G κ' (G'.set f (.own 0 [vs, v] 2)) ∧ FileR κ' (G'.set f (.own 0 [vs, v] 2)) d f (writeF F l)) → K v G') : appendP 1 24 G vw xv K := by
  obtain ⟨k, q, s1, s2, hl, s3⟩ := R
  have ho : [wv].all one = true := by
    obtain ⟨b, c, rfl⟩ := Sl.shape ow.sl
    rfl
  refine appendP_ow (Heap.but_le G κ (d, f, 2)) (by omega) s2 x ho (by omega) (by omega) ?_
  intro v G' o le
  have e1 := Ext.grow le
  obtain ⟨q', k'⟩ := e1.blk k (by simp) q
  have e2 := Ext.set (H := G') k' (.own 0 [vs, v] 2)
  refine hk v G' q' (Sl.shape o.sl) ⟨κ.grow G (d, f, 2), (e1.mono fun c h => by subst h; exact ⟨rfl, rfl, (by omega : (2 : Nat) < 4)⟩).trans (e2.mono fun c h => by subst h; exact ⟨rfl, rfl, Nat.zero_lt_succ _⟩), vs, v, ws ++ [wv], k', Heap.set_self _ _ _, e2.own (by simp) (e1.own (by simp) s1), ?_, ?_, ?_⟩
  · refine e2.own (by simp) ?_
    have := OwK.grown o
    simpa [writeF] using this
  · simp [writeF, hl]
  · intro i h1 h2
    refine e2.own (by simp) (e1.own (by simp) ?_)
    by_cases hi : i < ws.length
    · have hi2 : i < F.writes.length := by omega
      have := s3 i hi hi2
      simp only [writeF, List.getElem_append_left hi, List.getElem_append_left hi2]
      exact this
    · have : i = ws.length := by
        simp at h1; omega
      subst this
      have e3 : (ws ++ [wv])[ws.length]'h1 = wv := by simp
      have e4 : (writeF F l).writes[ws.length]'h2 = l := by
        simp only [writeF]
        rw [List.getElem_append_right (by omega)]
        simp [hl]
      rw [e3, e4]; exact ow

theorem Sl.obj_set {H : Heap} {r : Nat} {o : Obj} {size n : Nat} {v : Value} {cells : List Value} (q : H r = some (.obj o)) (s : Sl H size v n cells) (X : Blk) : Sl (H.set r X) size v n cells := by
  rcases s with s | ⟨a, c, h1, h2, h3⟩
  · exact .inl s
  · refine .inr ⟨a, c, h1, h2, ?_⟩
    by_cases e : a.block = r
    · obtain ⟨ab, ao, asp⟩ := a
      simp only at e; subst e
      generalize n * size = m at h3 ⊢
      cases m with
      | zero => simpa [hcells] using h3
      | succ m => cases asp <;> simp [hcells, q] at h3
    · obtain ⟨ab, ao, asp⟩ := a
      rw [hcells_ne e]; exact h3
theorem append40 (E : EnvT tab) {κ : Pal} {H : Heap} {d : Nat} {D : DiskF} {A B : List GFile} {g : GFile} {r clk : Nat} (V : DiskV κ H d D (A ++ g :: B) r clk) {s : List UInt8} (l : Lack A s) (hs : g.name = s) {base : Option Addr} {c : Nat} {b : List UInt8} (sb : SlB H (.slice base b.length c) b) (hb : b.length ≤ 140737488355328) (hw : g.F.writes.length ≤ 100000)
    {P : Value → Heap → Prop} (hk : ∀ κ' H', Ext (diskC d) κ H κ' H' → DiskR κ' H' d { D with files := turnF' D.files s (writeF g.F b) } → P (.int .i64 0) H') :
    wpA E.toEnv 57 ir_disk_Disk_Append_40 (qRet [.tmp 6] P) (tl [(0, ptrV d), (1, .string ⟨s.toArray⟩), (2, .slice base b.length c)]) H := by
  have c1 : hcell H ⟨d, 1, none⟩ = some (.map (some r)) := by rw [hcell_at V.qd (by simp)]; rfl
  have ma : mapAt H r = some (((A ++ g :: B).map GFile.e).toArray, clk) := by simp [mapAt, V.qr]
  have kf : keyFit .str (.string ⟨s.toArray⟩) = some () := rfl
  have fv := findG_some (B := B) hs 0 l
  simp only [strV] at fv
  have hg : g ∈ A ++ g :: B := by simp
  obtain ⟨vs, vw, ws, R⟩ := V.R g hg
  unfold ir_disk_Disk_Append_40
  simp -implicitDefEqProofs only [zB1,zB2,zB3,zB4,zB5,zB6,zB7,zB8,zB9,zB10,zB11,y00,y01,y02,y03,y04,y05,y06,y07,y08,y09,y0a,y0b,y0c,y0d,y0e,y0f,y0g,y0h,y0i,y0j,y0k,y0l,y0m,y0n,y0o,y0p,y0q,y0r,y0s,y0t,y0u,y0v,y0w,y0x,y0y,y0z,y10,y11,y12,y13,y14,y15,y16,y17,y18,y19,y1a,y1b,y1c,y1d,y1e,y1f,y1g,y1h,y1i,y1j,y1k,y1l,y1m,y1n,y1o,y1p,y1q,y1r,retO,retL,retV,z6i,allV,allP,z6j,z6m,z6n,z6t,z6u,z6v,binV,eqV,unV,oOpt,reduceIte,reduceCtorEq,Nat.reduceEqDiff,Nat.reduceAdd,Nat.reduceMul,Nat.reduceLT,Nat.reduceSub,Int.reduceLT,Int.reduceLE,Int.reduceEq,Int.reduceNe,Int.reduceSub,Int.reduceAdd,Int.reduceMul,Int.reduceBEq,Int.reduceBNe,Int.reduceGT,Int.reduceGE,Nat.reduceGT,Int.reduceToNat,Int.reduceNeg,Nat.reduceLeDiff,Nat.reduceBEq,Nat.reduceBneDiff,Value.cells, c1, ma, kf, fv]
  refine (Clone_c E H b hb sb).mono ?_
  rintro wv H1 ⟨le1, o1⟩
  have e1 : Ext (fun _ => False) κ H (κ.grow H (d, g.f, 3)) H1 := Ext.tint le1
  have R1 := R.ext e1 (fun _ _ q => q)
  have ow1 : OwK (κ.grow H (d, g.f, 3)) (d, g.f, 3) H1 1 wv b.length (b.map u8V) := OwK.tinted o1
  obtain ⟨wb, wc, rfl⟩ := Sl.shape o1.sl
  have q0 : hcell H ⟨g.f, 1, none⟩ = some vw := by rw [hcell_at R.2.1 (by simp)]; rfl
  have q1 : hcell H1 ⟨g.f, 1, none⟩ = some vw := by rw [hcell_at R1.2.1 (by simp)]; rfl
  simp -implicitDefEqProofs only [zB1,zB2,zB3,zB4,zB5,zB6,zB7,zB8,zB9,zB10,zB11,y00,y01,y02,y03,y04,y05,y06,y07,y08,y09,y0a,y0b,y0c,y0d,y0e,y0f,y0g,y0h,y0i,y0j,y0k,y0l,y0m,y0n,y0o,y0p,y0q,y0r,y0s,y0t,y0u,y0v,y0w,y0x,y0y,y0z,y10,y11,y12,y13,y14,y15,y16,y17,y18,y19,y1a,y1b,y1c,y1d,y1e,y1f,y1g,y1h,y1i,y1j,y1k,y1l,y1m,y1n,y1o,y1p,y1q,y1r,retO,retL,retV,z6i,allV,allP,z6j,z6m,z6n,z6t,z6u,z6v,binV,eqV,unV,oOpt,reduceIte,reduceCtorEq,Nat.reduceEqDiff,Nat.reduceAdd,Nat.reduceMul,Nat.reduceLT,Nat.reduceSub,Int.reduceLT,Int.reduceLE,Int.reduceEq,Int.reduceNe,Int.reduceSub,Int.reduceAdd,Int.reduceMul,Int.reduceBEq,Int.reduceBNe,Int.reduceGT,Int.reduceGE,Nat.reduceGT,Int.reduceToNat,Int.reduceNeg,Nat.reduceLeDiff,Nat.reduceBEq,Nat.reduceBneDiff,Value.cells, q0, q1, implies_true, List.mem_cons, List.not_mem_nil, List.mem_singleton, or_false, forall_eq, forall_eq_or_imp, and_self, List.length_replicate, List.drop_replicate, List.replicate_zero]
  intro b53 hb53
  try simp -implicitDefEqProofs only [zB1,zB2,zB3,zB4,zB5,zB6,zB7,zB8,zB9,zB10,zB11,y00,y01,y02,y03,y04,y05,y06,y07,y08,y09,y0a,y0b,y0c,y0d,y0e,y0f,y0g,y0h,y0i,y0j,y0k,y0l,y0m,y0n,y0o,y0p,y0q,y0r,y0s,y0t,y0u,y0v,y0w,y0x,y0y,y0z,y10,y11,y12,y13,y14,y15,y16,y17,y18,y19,y1a,y1b,y1c,y1d,y1e,y1f,y1g,y1h,y1i,y1j,y1k,y1l,y1m,y1n,y1o,y1p,y1q,y1r,retO,retL,retV,z6i,allV,allP,z6j,z6m,z6n,z6t,z6u,z6v,binV,eqV,unV,oOpt,reduceIte,reduceCtorEq,Nat.reduceEqDiff,Nat.reduceAdd,Nat.reduceMul,Nat.reduceLT,Nat.reduceSub,Int.reduceLT,Int.reduceLE,Int.reduceEq,Int.reduceNe,Int.reduceSub,Int.reduceAdd,Int.reduceMul,Int.reduceBEq,Int.reduceBNe,Int.reduceGT,Int.reduceGE,Nat.reduceGT,Int.reduceToNat,Int.reduceNeg,Nat.reduceLeDiff,Nat.reduceBEq,Nat.reduceBneDiff,Value.cells]
  have le2 := Heap.le_set (Heap.le_refl H1) hb53 (.own 0 [.slice wb b.length wc] 1)
  have sx : Sl (H1.set b53 (.own 0 [.slice wb b.length wc] 1)) 1 (.slice (some ⟨b53, 0, none⟩) 1 1) 1 [.slice wb b.length wc] := Sl.lit rfl
  have R2 := R1.ext (Ext.le (cs := fun _ => False) le2) (fun _ _ q => q)
  refine file_write R2 sx (OwK.le le2 ow1) hw ?_
  rintro v G' qf ⟨vb, vc, rfl⟩ ⟨κ', e3, R3⟩
  have st : storeV G' 1 (.pointer (some ⟨g.f, 1, none⟩)) (.slice vb (g.F.writes.length + 1) vc) = some (G'.set g.f (.own 0 [vs, .slice vb (g.F.writes.length + 1) vc] 2)) := storeV_one_at qf rfl (by simp) (by simp)
  simp -implicitDefEqProofs only [zB1,zB2,zB3,zB4,zB5,zB6,zB7,zB8,zB9,zB10,zB11,y00,y01,y02,y03,y04,y05,y06,y07,y08,y09,y0a,y0b,y0c,y0d,y0e,y0f,y0g,y0h,y0i,y0j,y0k,y0l,y0m,y0n,y0o,y0p,y0q,y0r,y0s,y0t,y0u,y0v,y0w,y0x,y0y,y0z,y10,y11,y12,y13,y14,y15,y16,y17,y18,y19,y1a,y1b,y1c,y1d,y1e,y1f,y1g,y1h,y1i,y1j,y1k,y1l,y1m,y1n,y1o,y1p,y1q,y1r,retO,retL,retV,z6i,allV,allP,z6j,z6m,z6n,z6t,z6u,z6v,binV,eqV,unV,oOpt,reduceIte,reduceCtorEq,Nat.reduceEqDiff,Nat.reduceAdd,Nat.reduceMul,Nat.reduceLT,Nat.reduceSub,Int.reduceLT,Int.reduceLE,Int.reduceEq,Int.reduceNe,Int.reduceSub,Int.reduceAdd,Int.reduceMul,Int.reduceBEq,Int.reduceBNe,Int.reduceGT,Int.reduceGE,Nat.reduceGT,Int.reduceToNat,Int.reduceNeg,Nat.reduceLeDiff,Nat.reduceBEq,Nat.reduceBneDiff,Value.cells, st, implies_true]
  have e13 : Ext (fileC d g.f) κ H κ' (G'.set g.f (.own 0 [vs, .slice vb (g.F.writes.length + 1) vc] 2)) := ((e1.mono fun c h => h.elim).trans (Ext.le le2)).trans e3
  refine hk κ' _ (ext_f e13) ?_
  rw [V.files, turn_eq hs V.nn]
  exact ⟨_, _, _, V.file e13 R3⟩

theorem disk_Append_c (E : EnvT tab) {κ : Pal} {H : Heap} {d : Nat} {D : DiskF} (R : DiskR κ H d D) (ok : D.ok) (s : List UInt8) (hs : s.length ≤ 9000000000000000000) {vb : Value} (b : List UInt8) (hb : b.length ≤ 140737488355328) (sb : SlB H vb b) :
    ACallN E.toEnv n_disk_Disk_Append [ptrV d, strV s, vb] H fun v H' => v = .int .i64 ((appendF D s b).2 : Nat) ∧ ∃ κ', Ext (diskC d) κ H κ' H' ∧ DiskR κ' H' d (appendF D s b).1 := by
  obtain ⟨G, r, clk, V⟩ := R
  obtain ⟨base, c, rfl⟩ := Sl.shape sb
  refine acall h_disk_Disk_Append ir_disk_Disk_Append rfl rfl (wpA_sound ?_)
  unfold ir_disk_Disk_Append
  simp -implicitDefEqProofs only [zB1,zB2,zB3,zB4,zB5,zB6,zB7,zB8,zB9,zB10,zB11,y00,y01,y02,y03,y04,y05,y06,y07,y08,y09,y0a,y0b,y0c,y0d,y0e,y0f,y0g,y0h,y0i,y0j,y0k,y0l,y0m,y0n,y0o,y0p,y0q,y0r,y0s,y0t,y0u,y0v,y0w,y0x,y0y,y0z,y10,y11,y12,y13,y14,y15,y16,y17,y18,y19,y1a,y1b,y1c,y1d,y1e,y1f,y1g,y1h,y1i,y1j,y1k,y1l,y1m,y1n,y1o,y1p,y1q,y1r,retO,retL,retV,z6i,allV,allP,z6j,z6m,z6n,z6t,z6u,z6v,binV,eqV,unV,oOpt,reduceIte,reduceCtorEq,Nat.reduceEqDiff,Nat.reduceAdd,Nat.reduceMul,Nat.reduceLT,Nat.reduceSub,Int.reduceLT,Int.reduceLE,Int.reduceEq,Int.reduceNe,Int.reduceSub,Int.reduceAdd,Int.reduceMul,Int.reduceBEq,Int.reduceBNe,Int.reduceGT,Int.reduceGE,Nat.reduceGT,Int.reduceToNat,Int.reduceNeg,Nat.reduceLeDiff,Nat.reduceBEq,Nat.reduceBneDiff,Value.cells]
  intro b11 hb11
  try simp -implicitDefEqProofs only [zB1,zB2,zB3,zB4,zB5,zB6,zB7,zB8,zB9,zB10,zB11,y00,y01,y02,y03,y04,y05,y06,y07,y08,y09,y0a,y0b,y0c,y0d,y0e,y0f,y0g,y0h,y0i,y0j,y0k,y0l,y0m,y0n,y0o,y0p,y0q,y0r,y0s,y0t,y0u,y0v,y0w,y0x,y0y,y0z,y10,y11,y12,y13,y14,y15,y16,y17,y18,y19,y1a,y1b,y1c,y1d,y1e,y1f,y1g,y1h,y1i,y1j,y1k,y1l,y1m,y1n,y1o,y1p,y1q,y1r,retO,retL,retV,z6i,allV,allP,z6j,z6m,z6n,z6t,z6u,z6v,binV,eqV,unV,oOpt,reduceIte,reduceCtorEq,Nat.reduceEqDiff,Nat.reduceAdd,Nat.reduceMul,Nat.reduceLT,Nat.reduceSub,Int.reduceLT,Int.reduceLE,Int.reduceEq,Int.reduceNe,Int.reduceSub,Int.reduceAdd,Int.reduceMul,Int.reduceBEq,Int.reduceBNe,Int.reduceGT,Int.reduceGE,Nat.reduceGT,Int.reduceToNat,Int.reduceNeg,Nat.reduceLeDiff,Nat.reduceBEq,Nat.reduceBneDiff,Value.cells, strV]
  have le1 := Heap.le_set (Heap.le_refl H) hb11 (.own 0 [strV s] 1)
  have sn : Sl (H.set b11 (.own 0 [strV s] 1)) 1 (.slice (some ⟨b11, 0, none⟩) 1 1) 1 [strV s] := Sl.lit rfl
  refine (disk_ask_c E ⟨G, r, clk, V.le le1⟩ [s] (by simp) (by simpa using hs) sn).mono ?_
  rintro v H1 ⟨rfl, rfl⟩
  generalize (H.set b11 (.own 0 [strV s] 1)) = H1 at le1
  have V1 := V.le le1
  unfold appendF
  by_cases e : askF D [s] = 0
  · rw [if_pos e]
    have e2 : ((askF D [s] : Nat) : Int) = 0 := by omega
    simp -implicitDefEqProofs only [zB1,zB2,zB3,zB4,zB5,zB6,zB7,zB8,zB9,zB10,zB11,y00,y01,y02,y03,y04,y05,y06,y07,y08,y09,y0a,y0b,y0c,y0d,y0e,y0f,y0g,y0h,y0i,y0j,y0k,y0l,y0m,y0n,y0o,y0p,y0q,y0r,y0s,y0t,y0u,y0v,y0w,y0x,y0y,y0z,y10,y11,y12,y13,y14,y15,y16,y17,y18,y19,y1a,y1b,y1c,y1d,y1e,y1f,y1g,y1h,y1i,y1j,y1k,y1l,y1m,y1n,y1o,y1p,y1q,y1r,retO,retL,retV,z6i,allV,allP,z6j,z6m,z6n,z6t,z6u,z6v,binV,eqV,unV,oOpt,reduceIte,reduceCtorEq,Nat.reduceEqDiff,Nat.reduceAdd,Nat.reduceMul,Nat.reduceLT,Nat.reduceSub,Int.reduceLT,Int.reduceLE,Int.reduceEq,Int.reduceNe,Int.reduceSub,Int.reduceAdd,Int.reduceMul,Int.reduceBEq,Int.reduceBNe,Int.reduceGT,Int.reduceGE,Nat.reduceGT,Int.reduceToNat,Int.reduceNeg,Nat.reduceLeDiff,Nat.reduceBEq,Nat.reduceBneDiff,Value.cells, e2]
    refine (disk_size_c E ⟨G, r, clk, V1⟩ ok).mono ?_
    rintro v H2 ⟨le2, rfl⟩
    have V2 := V1.le le2
    have c01 : hcell H1 ⟨d, 0, none⟩ = some (.int .i64 D.room) := by rw [hcell_at V1.qd (by simp)]; rfl
    have c02 : hcell H2 ⟨d, 0, none⟩ = some (.int .i64 D.room) := by rw [hcell_at V2.qd (by simp)]; rfl
    have hz := ok.2.1
    have hr1 := ok.2.2.1
    have hr2 := ok.2.2.2
    have w : IntKind.i64.wrap (D.room - (sizeF D.files : Nat)) = D.room - (sizeF D.files : Nat) := wrapI (by omega) (by omega)
    have le02 := Heap.le_trans le1 le2
    by_cases full : D.room - (sizeF D.files : Nat) < (b.length : Nat)
    · rw [if_pos full]
      simp -implicitDefEqProofs only [zB1,zB2,zB3,zB4,zB5,zB6,zB7,zB8,zB9,zB10,zB11,y00,y01,y02,y03,y04,y05,y06,y07,y08,y09,y0a,y0b,y0c,y0d,y0e,y0f,y0g,y0h,y0i,y0j,y0k,y0l,y0m,y0n,y0o,y0p,y0q,y0r,y0s,y0t,y0u,y0v,y0w,y0x,y0y,y0z,y10,y11,y12,y13,y14,y15,y16,y17,y18,y19,y1a,y1b,y1c,y1d,y1e,y1f,y1g,y1h,y1i,y1j,y1k,y1l,y1m,y1n,y1o,y1p,y1q,y1r,retO,retL,retV,z6i,allV,allP,z6j,z6m,z6n,z6t,z6u,z6v,binV,eqV,unV,oOpt,reduceIte,reduceCtorEq,Nat.reduceEqDiff,Nat.reduceAdd,Nat.reduceMul,Nat.reduceLT,Nat.reduceSub,Int.reduceLT,Int.reduceLE,Int.reduceEq,Int.reduceNe,Int.reduceSub,Int.reduceAdd,Int.reduceMul,Int.reduceBEq,Int.reduceBNe,Int.reduceGT,Int.reduceGE,Nat.reduceGT,Int.reduceToNat,Int.reduceNeg,Nat.reduceLeDiff,Nat.reduceBEq,Nat.reduceBneDiff,Value.cells, c01, c02, w, full, implies_true, List.mem_cons, List.not_mem_nil, List.mem_singleton, or_false, forall_eq, forall_eq_or_imp, and_self]
      exact ⟨κ, Ext.le le02, ⟨G, r, clk, V2⟩⟩
    · rw [if_neg full]
      simp -implicitDefEqProofs only [zB1,zB2,zB3,zB4,zB5,zB6,zB7,zB8,zB9,zB10,zB11,y00,y01,y02,y03,y04,y05,y06,y07,y08,y09,y0a,y0b,y0c,y0d,y0e,y0f,y0g,y0h,y0i,y0j,y0k,y0l,y0m,y0n,y0o,y0p,y0q,y0r,y0s,y0t,y0u,y0v,y0w,y0x,y0y,y0z,y10,y11,y12,y13,y14,y15,y16,y17,y18,y19,y1a,y1b,y1c,y1d,y1e,y1f,y1g,y1h,y1i,y1j,y1k,y1l,y1m,y1n,y1o,y1p,y1q,y1r,retO,retL,retV,z6i,allV,allP,z6j,z6m,z6n,z6t,z6u,z6v,binV,eqV,unV,oOpt,reduceIte,reduceCtorEq,Nat.reduceEqDiff,Nat.reduceAdd,Nat.reduceMul,Nat.reduceLT,Nat.reduceSub,Int.reduceLT,Int.reduceLE,Int.reduceEq,Int.reduceNe,Int.reduceSub,Int.reduceAdd,Int.reduceMul,Int.reduceBEq,Int.reduceBNe,Int.reduceGT,Int.reduceGE,Nat.reduceGT,Int.reduceToNat,Int.reduceNeg,Nat.reduceLeDiff,Nat.reduceBEq,Nat.reduceBneDiff,Value.cells, c01, c02, w, full, implies_true, List.mem_cons, List.not_mem_nil, List.mem_singleton, or_false, forall_eq, forall_eq_or_imp, and_self]
      unfold ir_disk_Disk_Append_26
      have c12 : hcell H2 ⟨d, 1, none⟩ = some (.map (some r)) := by rw [hcell_at V2.qd (by simp)]; rfl
      have ma : mapAt H2 r = some ((G.map GFile.e).toArray, clk) := by simp [mapAt, V2.qr]
      have kf : keyFit .str (.string ⟨s.toArray⟩) = some () := rfl
      rcases lack_or G s with l | ⟨A, g, B, rfl, l, hg⟩
      · have fv := findG_none (s := s) 0 l
        simp only [strV] at fv
        have el : lookF D.files s = none := by rw [V.files]; exact look_lack l
        simp only [el]
        simp -implicitDefEqProofs only [zB1,zB2,zB3,zB4,zB5,zB6,zB7,zB8,zB9,zB10,zB11,y00,y01,y02,y03,y04,y05,y06,y07,y08,y09,y0a,y0b,y0c,y0d,y0e,y0f,y0g,y0h,y0i,y0j,y0k,y0l,y0m,y0n,y0o,y0p,y0q,y0r,y0s,y0t,y0u,y0v,y0w,y0x,y0y,y0z,y10,y11,y12,y13,y14,y15,y16,y17,y18,y19,y1a,y1b,y1c,y1d,y1e,y1f,y1g,y1h,y1i,y1j,y1k,y1l,y1m,y1n,y1o,y1p,y1q,y1r,retO,retL,retV,z6i,allV,allP,z6j,z6m,z6n,z6t,z6u,z6v,binV,eqV,unV,oOpt,reduceIte,reduceCtorEq,Nat.reduceEqDiff,Nat.reduceAdd,Nat.reduceMul,Nat.reduceLT,Nat.reduceSub,Int.reduceLT,Int.reduceLE,Int.reduceEq,Int.reduceNe,Int.reduceSub,Int.reduceAdd,Int.reduceMul,Int.reduceBEq,Int.reduceBNe,Int.reduceGT,Int.reduceGE,Nat.reduceGT,Int.reduceToNat,Int.reduceNeg,Nat.reduceLeDiff,Nat.reduceBEq,Nat.reduceBneDiff,Value.cells, c12, ma, kf, fv, Option.isNone_none, Option.isNone_some]
        intro f hf
        try simp -implicitDefEqProofs only [zB1,zB2,zB3,zB4,zB5,zB6,zB7,zB8,zB9,zB10,zB11,y00,y01,y02,y03,y04,y05,y06,y07,y08,y09,y0a,y0b,y0c,y0d,y0e,y0f,y0g,y0h,y0i,y0j,y0k,y0l,y0m,y0n,y0o,y0p,y0q,y0r,y0s,y0t,y0u,y0v,y0w,y0x,y0y,y0z,y10,y11,y12,y13,y14,y15,y16,y17,y18,y19,y1a,y1b,y1c,y1d,y1e,y1f,y1g,y1h,y1i,y1j,y1k,y1l,y1m,y1n,y1o,y1p,y1q,y1r,retO,retL,retV,z6i,allV,allP,z6j,z6m,z6n,z6t,z6u,z6v,binV,eqV,unV,oOpt,reduceIte,reduceCtorEq,Nat.reduceEqDiff,Nat.reduceAdd,Nat.reduceMul,Nat.reduceLT,Nat.reduceSub,Int.reduceLT,Int.reduceLE,Int.reduceEq,Int.reduceNe,Int.reduceSub,Int.reduceAdd,Int.reduceMul,Int.reduceBEq,Int.reduceBNe,Int.reduceGT,Int.reduceGE,Nat.reduceGT,Int.reduceToNat,Int.reduceNeg,Nat.reduceLeDiff,Nat.reduceBEq,Nat.reduceBneDiff,Value.cells]
        have e3 : Ext (fun _ => False) κ H2 (fun i => if i = f then some (d, f, 0) else κ i) (H2.set f (.own 0 [.slice none 0 0, .slice none 0 0] 2)) := Ext.new hf _ _
        have V3 := V2.ext e3 (fun _ _ q => q)
        have le3 := Heap.le_set (Heap.le_refl H2) hf (.own 0 [.slice none 0 0, .slice none 0 0] 2)
        have Rf : FileR (fun i => if i = f then some (d, f, 0) else κ i) (H2.set f (.own 0 [.slice none 0 0, .slice none 0 0] 2)) d f {} := ⟨_, _, [], by simp, Heap.set_self _ _ _, Ow.nil _ _ _, Ow.nil _ _ _, rfl, fun i h1 h2 => by simp at h1⟩
        have nf' : ∀ g ∈ G, g.f ≠ f := by
          intro g hg
          obtain ⟨_, _, _, _, q, _⟩ := V2.R g hg
          exact ne_of_none hf q
        generalize (H2.set f (.own 0 [.slice none 0 0, .slice none 0 0] 2)) = H3 at e3 V3 Rf le3 ⊢
        generalize (fun i => if i = f then some (d, f, 0) else κ i) = κ3 at e3 V3 Rf
        have c13 : hcell H3 ⟨d, 1, none⟩ = some (.map (some r)) := by rw [hcell_at V3.qd (by simp)]; rfl
        have mu := mupd_new (f := f) {} V3.qr l
        simp only [strV] at mu
        have V4 := V3.set_r (G ++ [⟨s, f, clk, {}⟩]) (clk + 1) (by simp only [List.map_append, List.map_cons, List.map_nil]; rw [List.nodup_append]; exact ⟨V.nf, by simp, fun a ha b hb => by
            obtain ⟨g, hg, rfl⟩ := List.mem_map.1 ha
            rw [List.mem_singleton] at hb; subst hb; exact nf' g hg⟩)
          (by simp only [List.map_append, List.map_cons, List.map_nil]; rw [List.nodup_append]; exact ⟨V.nn, by simp, fun a ha b hb => by
            obtain ⟨g, hg, rfl⟩ := List.mem_map.1 ha
            rw [List.mem_singleton] at hb; subst hb; exact l g hg⟩)
          (by simp only [List.map_append, List.map_cons, List.map_nil]; rw [List.nodup_append]; exact ⟨V.nb, by simp, fun a ha b hb => by
            obtain ⟨g, hg, rfl⟩ := List.mem_map.1 ha
            rw [List.mem_singleton] at hb; subst hb; exact Nat.ne_of_lt (V.lb g hg)⟩)
          (by
            intro x hx
            rcases List.mem_append.1 hx with hx | hx
            · exact Nat.lt_succ_of_lt (V.lb x hx)
            · rw [List.mem_singleton] at hx; subst hx; exact Nat.lt_succ_self _)
          (by
            intro x hx
            rcases List.mem_append.1 hx with hx | hx
            · exact V3.R x hx
            · rw [List.mem_singleton] at hx; subst hx; exact Rf)
        simp -implicitDefEqProofs only [zB1,zB2,zB3,zB4,zB5,zB6,zB7,zB8,zB9,zB10,zB11,y00,y01,y02,y03,y04,y05,y06,y07,y08,y09,y0a,y0b,y0c,y0d,y0e,y0f,y0g,y0h,y0i,y0j,y0k,y0l,y0m,y0n,y0o,y0p,y0q,y0r,y0s,y0t,y0u,y0v,y0w,y0x,y0y,y0z,y10,y11,y12,y13,y14,y15,y16,y17,y18,y19,y1a,y1b,y1c,y1d,y1e,y1f,y1g,y1h,y1i,y1j,y1k,y1l,y1m,y1n,y1o,y1p,y1q,y1r,retO,retL,retV,z6i,allV,allP,z6j,z6m,z6n,z6t,z6u,z6v,binV,eqV,unV,oOpt,reduceIte,reduceCtorEq,Nat.reduceEqDiff,Nat.reduceAdd,Nat.reduceMul,Nat.reduceLT,Nat.reduceSub,Int.reduceLT,Int.reduceLE,Int.reduceEq,Int.reduceNe,Int.reduceSub,Int.reduceAdd,Int.reduceMul,Int.reduceBEq,Int.reduceBNe,Int.reduceGT,Int.reduceGE,Nat.reduceGT,Int.reduceToNat,Int.reduceNeg,Nat.reduceLeDiff,Nat.reduceBEq,Nat.reduceBneDiff,Value.cells, c12, c13, mu]
        have e4 : Ext (diskC d) κ3 H3 κ3 (H3.set r (.obj (.map ((G ++ [(⟨s, f, clk, {}⟩ : GFile)]).map GFile.e).toArray (clk + 1)))) := ext_d (Ext.set V3.kr _)
        have e04 := (((Ext.le le02).trans (e3.mono fun c h => h.elim)).trans e4 : Ext (diskC d) κ H κ3 _)
        have sb4 : SlB (H3.set r (.obj (.map ((G ++ [(⟨s, f, clk, {}⟩ : GFile)]).map GFile.e).toArray (clk + 1)))) (.slice base b.length c) b := Sl.obj_set V3.qr ((sb.le le02).le le3) _
        generalize (H3.set r (.obj (.map ((G ++ [(⟨s, f, clk, {}⟩ : GFile)]).map GFile.e).toArray (clk + 1)))) = H4 at V4 e04 sb4 ⊢
        refine append40 E V4 l rfl sb4 hb (by simp) ?_
        intro κ' H' e5 R5
        refine ⟨rfl, κ', e04.trans e5, ?_⟩
        have : turnF' (nF (G ++ [⟨s, f, clk, {}⟩])) s (writeF {} b) = D.files ++ [(s, ⟨[], [b]⟩)] := by
          rw [turn_eq (A := G) (B := []) (g := ⟨s, f, clk, {}⟩) rfl V4.nn, V.files]
          simp [nF, writeF]
        simp only [this] at R5
        exact R5
      · have fv := findG_some (B := B) hg 0 l
        simp only [strV] at fv
        have el : lookF D.files s = some g.F := by rw [V.files]; exact look_some l hg
        simp only [el]
        simp -implicitDefEqProofs only [zB1,zB2,zB3,zB4,zB5,zB6,zB7,zB8,zB9,zB10,zB11,y00,y01,y02,y03,y04,y05,y06,y07,y08,y09,y0a,y0b,y0c,y0d,y0e,y0f,y0g,y0h,y0i,y0j,y0k,y0l,y0m,y0n,y0o,y0p,y0q,y0r,y0s,y0t,y0u,y0v,y0w,y0x,y0y,y0z,y10,y11,y12,y13,y14,y15,y16,y17,y18,y19,y1a,y1b,y1c,y1d,y1e,y1f,y1g,y1h,y1i,y1j,y1k,y1l,y1m,y1n,y1o,y1p,y1q,y1r,retO,retL,retV,z6i,allV,allP,z6j,z6m,z6n,z6t,z6u,z6v,binV,eqV,unV,oOpt,reduceIte,reduceCtorEq,Nat.reduceEqDiff,Nat.reduceAdd,Nat.reduceMul,Nat.reduceLT,Nat.reduceSub,Int.reduceLT,Int.reduceLE,Int.reduceEq,Int.reduceNe,Int.reduceSub,Int.reduceAdd,Int.reduceMul,Int.reduceBEq,Int.reduceBNe,Int.reduceGT,Int.reduceGE,Nat.reduceGT,Int.reduceToNat,Int.reduceNeg,Nat.reduceLeDiff,Nat.reduceBEq,Nat.reduceBneDiff,Value.cells, c12, ma, kf, fv, Option.isNone_none, Option.isNone_some]
        have hm : g ∈ A ++ g :: B := by simp
        have okg : g.F.ok := (ok.1 (g.name, g.F) (by rw [V.files]; exact List.mem_map_of_mem hm)).1
        refine append40 E V2 l hg (sb.le le02) hb okg.1 ?_
        intro κ' H' e5 R5
        exact ⟨rfl, κ', (Ext.le le02).trans e5, R5⟩
  · rw [if_neg e]
    have e2 : ¬ ((askF D [s] : Nat) : Int) = 0 := by omega
    simp -implicitDefEqProofs only [zB1,zB2,zB3,zB4,zB5,zB6,zB7,zB8,zB9,zB10,zB11,y00,y01,y02,y03,y04,y05,y06,y07,y08,y09,y0a,y0b,y0c,y0d,y0e,y0f,y0g,y0h,y0i,y0j,y0k,y0l,y0m,y0n,y0o,y0p,y0q,y0r,y0s,y0t,y0u,y0v,y0w,y0x,y0y,y0z,y10,y11,y12,y13,y14,y15,y16,y17,y18,y19,y1a,y1b,y1c,y1d,y1e,y1f,y1g,y1h,y1i,y1j,y1k,y1l,y1m,y1n,y1o,y1p,y1q,y1r,retO,retL,retV,z6i,allV,allP,z6j,z6m,z6n,z6t,z6u,z6v,binV,eqV,unV,oOpt,reduceIte,reduceCtorEq,Nat.reduceEqDiff,Nat.reduceAdd,Nat.reduceMul,Nat.reduceLT,Nat.reduceSub,Int.reduceLT,Int.reduceLE,Int.reduceEq,Int.reduceNe,Int.reduceSub,Int.reduceAdd,Int.reduceMul,Int.reduceBEq,Int.reduceBNe,Int.reduceGT,Int.reduceGE,Nat.reduceGT,Int.reduceToNat,Int.reduceNeg,Nat.reduceLeDiff,Nat.reduceBEq,Nat.reduceBneDiff,Value.cells, e2]
    exact ⟨κ, Ext.le le1, ⟨G, r, clk, V1⟩⟩
end Go.Bb
