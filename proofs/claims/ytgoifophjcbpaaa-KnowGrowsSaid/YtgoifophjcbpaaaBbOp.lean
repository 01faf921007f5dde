/- Arguments as they come: shapes of values, and what is known of each. -/
import Derived.Test.YtgoifophjcbpaaaBbW
import Derived.ChangeArms
import Derived.OpenShut
import Derived.ChangeSlices
namespace Go.Bb
set_option linter.unusedVariables false
set_option linter.unusedSimpArgs false
open Go.RowKit

inductive Shp where
  | int (k : IntKind)
  | str
  | bool
  | slice (size : Nat) (e : Shp)
  | struct (n : Nat) (fs : Shp)
  | fld (off size : Nat) (s rest : Shp)
  | fend
  | array (n size : Nat) (e : Shp)

/-- Cells of a shape. -/
def Shp.okC (W : World) : Shp → List Value → Prop
  | .int k, cs => ∃ n, cs = [.int k n] ∧ k.min ≤ n ∧ n ≤ k.max
  | .str, cs => ∃ s, cs = [.string s] ∧ s.size ≤ 9223372036854775807
  | .bool, cs => ∃ b, cs = [.bool b]
  | .slice size e, cs => cs = [.slice none 0 0] ∨ ∃ a len cap, cs = [.slice (some a) len cap] ∧ len ≤ cap ∧ cap ≤ 9223372036854775807 ∧ ∀ i, i < len → ∃ l, W.cells? 0 (a.add (i * size)) size = some l ∧ e.okC W l
  | .struct n fs, cs => cs.length = n ∧ fs.okC W cs
  | .fld off size s rest, cs => s.okC W ((cs.drop off).take size) ∧ rest.okC W cs
  | .fend, _ => True
  | .array n size e, cs => cs.length = n * size ∧ ∀ i, i < n → e.okC W ((cs.drop (i * size)).take size)

def Shp.wide : Shp → Bool
  | .struct .. | .array .. => true
  | _ => false
def Shp.ok (W : World) (s : Shp) (v : Value) : Prop := s.okC W v.cells.toList ∧ if s.wide = true then ∃ cs, v = .agg cs else one v = true

def Shp.isField : Shp → Bool
  | .fld .. | .fend => true
  | _ => false

def Shp.fits (P : Program) : Shp → TypeId → List Field → Bool
  | .int k, t, _ => match P.underlying t with | some (.int k') => decide (k' = k) | _ => false
  | .str, t, _ => match P.underlying t with | some .string => true | _ => false
  | .bool, t, _ => match P.underlying t with | some .bool => true | _ => false
  | .slice size e, t, _ => match P.underlying t with | some (.slice u) => !e.isField && (P.cellsOf u == size && e.fits P u []) | _ => false
  | .struct n fs, t, _ => match P.underlying t with | some (.struct fl) => fs.isField && (P.cellsOf t == n && fs.fits P t fl.toList) | _ => false
  | .fld off size s rest, t, fl => match fl with | f :: fl => f.offset == off && (P.cellsOf f.type == size && (s.fits P f.type [] && (rest.fits P t fl && (!s.isField && rest.isField)))) | [] => false
  | .fend, t, fl => fl.isEmpty
  | .array n size e, t, _ => match P.underlying t with | some (.array m u) => m == n && (P.cellsOf t == n * size && (P.cellsOf u == size && (e.fits P u [] && !e.isField))) | _ => false

section
variable {H : Type} {enc : TypeId × Value → H} {P : Program} {W : World} {spare : Nat → Bool} {held : Bool}

theorem wf_int {k : IntKind} {n : Int} (h : (Lit.int k n).wf = true) : k.min ≤ n ∧ n ≤ k.max := by
  simp only [Lit.wf, Bool.and_eq_true, decide_eq_true_eq] at h
  exact h

theorem Shp.okC_of : ∀ (s : Shp), (∀ (t : TypeId) (fuel : Nat) (cs : List Value) (x : DataW H × List MemPlace), s.isField = false → s.fits P t [] = true → DataW.trod enc P W 0 spare held fuel t cs = some x → s.okC W cs) ∧
    (∀ (t : TypeId) (fl : List Field) (fuel : Nat) (cs : List Value), s.isField = true → s.fits P t fl = true → (∀ f ∈ fl, ∃ y, DataW.trod enc P W 0 spare held fuel f.type ((cs.drop f.offset).take (P.cellsOf f.type)) = some y) → s.okC W cs)
  | .int k => by
    refine ⟨fun t fuel cs x _ hf h => ?_, fun _ _ _ _ h => by cases h⟩
    simp only [Shp.fits] at hf
    split at hf
    · rename_i k' ht
      simp only [decide_eq_true_eq] at hf; subst hf
      obtain ⟨n, rfl, _, hw⟩ := DataW.trod_int ht h
      exact ⟨n, rfl, wf_int hw⟩
    · cases hf
  | .str => by
    refine ⟨fun t fuel cs x _ hf h => ?_, fun _ _ _ _ h => by cases h⟩
    simp only [Shp.fits] at hf
    split at hf
    · rename_i ht
      obtain ⟨n, rfl, _, hw⟩ := DataW.trod_string ht h
      exact ⟨n, rfl, hw⟩
    · cases hf
  | .bool => by
    refine ⟨fun t fuel cs x _ hf h => ?_, fun _ _ _ _ h => by cases h⟩
    simp only [Shp.fits] at hf
    split at hf
    · rename_i ht
      cases fuel with
      | zero => simp [DataW.trod] at h
      | succ m =>
        unfold DataW.trod at h
        rw [ht] at h
        split at h <;> simp_all
        exact ⟨_, rfl⟩
    · cases hf
  | .slice size e => by
    refine ⟨fun t fuel cs x _ hf h => ?_, fun _ _ _ _ h => by cases h⟩
    simp only [Shp.fits] at hf
    split at hf
    · rename_i u ht
      simp only [Bool.and_eq_true, beq_iff_eq, Bool.not_eq_true'] at hf
      obtain ⟨hne, hf⟩ := hf
      rcases DataW.trod_slice ht h with ⟨h0, _⟩ | ⟨a, len, cap, elems, rest, n, _, rfl, _, _, hl, hm, hlen, hel, _⟩
      · exact .inl h0
      · refine .inr ⟨a, len, cap, rfl, hl, hm, fun i hi => ?_⟩
        have := hel i hi
        have hi2 : i < elems.length := by omega
        rw [List.getElem?_eq_getElem hi2, Option.bind_eq_some_iff] at this
        obtain ⟨l, hl1, hl2⟩ := this
        rw [hf.1] at hl1
        exact ⟨l, hl1, (Shp.okC_of e).1 u n l _ hne hf.2 hl2⟩
    · cases hf
  | .struct n fs => by
    refine ⟨fun t fuel cs x _ hf h => ?_, fun _ _ _ _ h => by cases h⟩
    simp only [Shp.fits] at hf
    split at hf
    · rename_i fl ht
      simp only [Bool.and_eq_true, beq_iff_eq] at hf
      obtain ⟨hfi, hf⟩ := hf
      obtain ⟨xs, m, _, _, hc, hxl, hx⟩ := DataW.trod_struct ht h
      refine ⟨by omega, ?_⟩
      · refine (Shp.okC_of fs).2 t fl.toList m cs hfi hf.2 fun f hfm => ?_
        obtain ⟨i, hi⟩ := List.getElem?_of_mem hfm
        have h1 := hx i f (by simpa using hi)
        have : i < xs.length := by
          rw [hxl]
          rcases Nat.lt_or_ge i fl.size with g | g
          · exact g
          · simp [Array.getElem?_eq_none g] at hi
        rw [List.getElem?_eq_getElem this] at h1
        exact ⟨_, h1⟩
    · cases hf
  | .fld off size s rest => by
    refine ⟨(fun t fuel cs x h => by cases h), fun t fl fuel cs _ hf h => ?_⟩
    simp only [Shp.fits] at hf
    split at hf
    · rename_i f fl
      simp only [Bool.and_eq_true, beq_iff_eq, Bool.not_eq_true'] at hf
      obtain ⟨h1, h2, h3, h4, h5, h6⟩ := hf
      obtain ⟨y, hy⟩ := h f (by simp)
      rw [h1, h2] at hy
      refine ⟨?_, ?_⟩
      · exact (Shp.okC_of s).1 f.type fuel _ y h5 h3 hy
      · exact (Shp.okC_of rest).2 t fl fuel cs h6 h4 fun g hg => h g (by simp [hg])
    · cases hf
  | .fend => ⟨(fun t fuel cs x h => by cases h), fun t fl fuel cs _ hf h => trivial⟩
  | .array n size e => by
    refine ⟨fun t fuel cs x _ hf h => ?_, fun _ _ _ _ h => by cases h⟩
    simp only [Shp.fits] at hf
    split at hf
    · rename_i m u ht
      simp only [Bool.and_eq_true, beq_iff_eq, Bool.not_eq_true'] at hf
      obtain ⟨rfl, h2, h3, h4, h5⟩ := hf
      obtain ⟨xs, q, _, _, hc, hxl, hx⟩ := DataW.trod_array ht h
      refine ⟨by omega, fun i hi => ?_⟩
      have := hx i hi
      rw [List.getElem?_eq_getElem (by omega), h3] at this
      exact (Shp.okC_of e).1 u q _ _ h5 h4 this
    · cases hf

theorem Shp.ok_of {s : Shp} {t : TypeId} {v : Value} {base : Nat} {d : DataW H} {ps : List MemPlace} (hs : (!s.isField && s.fits P t []) = true) (hv : Value.okWide P W .any base t v) (h : DataW.Trod enc P W 0 spare held t v d ps) : s.ok W v := by
  simp only [Bool.and_eq_true, Bool.not_eq_true'] at hs
  obtain ⟨fuel, h⟩ := h
  refine ⟨(Shp.okC_of s).1 t fuel _ _ hs.1 hs.2 h, ?_⟩
  have key : (∀ fs, P.underlying t ≠ some (.struct fs)) → (∀ n e, P.underlying t ≠ some (.array n e)) → Cell.okWide P W .any base t v := by
    intro h1 h2
    unfold Value.okWide at hv
    split at hv
    · rename_i fs hh; exact absurd hh (h1 fs)
    · rename_i n e hh; exact absurd hh (h2 n e)
    · exact hv
  obtain ⟨hs1, hs2⟩ := hs
  cases s with
  | struct n fs =>
    simp only [Shp.fits] at hs2
    split at hs2
    · rename_i fl ht
      unfold Value.okWide at hv
      rw [ht] at hv
      obtain ⟨cs, rfl, _⟩ := hv
      exact ⟨cs, rfl⟩
    · cases hs2
  | array n size e =>
    simp only [Shp.fits] at hs2
    split at hs2
    · rename_i m u ht
      unfold Value.okWide at hv
      rw [ht] at hv
      obtain ⟨cs, rfl, _⟩ := hv
      exact ⟨cs, rfl⟩
    · cases hs2
  | fld => cases hs1
  | fend => cases hs1
  | int k =>
    simp only [Shp.fits] at hs2
    split at hs2
    · rename_i k' ht
      have := key (fun fs hh => by rw [hh] at ht; cases ht) (fun n e hh => by rw [hh] at ht; cases ht)
      unfold Cell.okWide Cell.ok at this
      rw [ht] at this
      cases v <;> first | rfl | exact this.elim
    · cases hs2
  | str =>
    simp only [Shp.fits] at hs2
    split at hs2
    · rename_i ht
      have := key (fun fs hh => by rw [hh] at ht; cases ht) (fun n e hh => by rw [hh] at ht; cases ht)
      unfold Cell.okWide Cell.ok at this
      rw [ht] at this
      cases v <;> first | rfl | exact this.elim
    · cases hs2
  | bool =>
    simp only [Shp.fits] at hs2
    split at hs2
    · rename_i ht
      have := key (fun fs hh => by rw [hh] at ht; cases ht) (fun n e hh => by rw [hh] at ht; cases ht)
      unfold Cell.okWide Cell.ok at this
      rw [ht] at this
      cases v <;> first | rfl | exact this.elim
    · cases hs2
  | slice size e =>
    simp only [Shp.fits] at hs2
    split at hs2
    · rename_i u ht
      have := key (fun fs hh => by rw [hh] at ht; cases ht) (fun n e hh => by rw [hh] at ht; cases ht)
      unfold Cell.okWide Cell.ok at this
      rw [ht] at this
      cases v <;> first | rfl | exact this.elim
    · cases hs2
end

/-! ### what is read off -/
section
variable {W : World}
theorem Shp.ok_int {k : IntKind} {v : Value} (h : Shp.ok W (.int k) v) : ∃ n, v = .int k n ∧ k.min ≤ n ∧ n ≤ k.max := by
  obtain ⟨⟨n, h1, h2⟩, h3⟩ := h
  refine ⟨n, ?_, h2⟩
  cases v <;> simp_all [Value.cells, Shp.wide, one]
theorem Shp.ok_str {v : Value} (h : Shp.ok W .str v) : ∃ s, v = .string s ∧ s.size ≤ 9223372036854775807 := by
  obtain ⟨⟨n, h1, h2⟩, h3⟩ := h
  refine ⟨n, ?_, h2⟩
  cases v <;> simp_all [Value.cells, Shp.wide, one]
theorem one_cells {v u : Value} (h : one v = true) (e : v.cells.toList = [u]) : v = u := by
  cases v <;> simp_all [Value.cells, one]

theorem cells?_spec {a : Addr} {n : Nat} {l : List Value} (h : W.cells? 0 a n = some l) : l.length = n ∧ ∀ i, i < n → W.cell? (a.add i) = l[i]? := by
  unfold World.cells? at h
  simp only [Nat.zero_le, if_true] at h
  have key : ∀ (r : List Nat) (l : List Value), (r.mapM fun i => W.cell? (a.add i)) = some l → l.length = r.length ∧ ∀ (j i : Nat), r[j]? = some i → W.cell? (a.add i) = l[j]? := by
    intro r
    induction r with
    | nil => intro l h; simp at h; subst h; simp
    | cons i r ih =>
      intro l h
      simp only [List.mapM_cons, Option.bind_eq_bind, Option.bind_eq_some_iff, Option.pure_def, Option.some.injEq] at h
      obtain ⟨v, hv, vs, hvs, rfl⟩ := h
      obtain ⟨h1, h2⟩ := ih vs hvs
      refine ⟨by simp [h1], ?_⟩
      intro j k hk
      cases j with
      | zero => simp at hk; subst hk; simpa using hv
      | succ j => simp at hk; simpa using h2 j k hk
  obtain ⟨h1, h2⟩ := key _ _ h
  simp only [List.length_range] at h1
  exact ⟨h1, fun i hi => h2 i i (by simp [hi])⟩

theorem add_add (a : Addr) (i j : Nat) : (a.add i).add j = a.add (i + j) := by
  obtain ⟨b, o, s⟩ := a
  unfold Addr.add
  split
  · rename_i h; subst h; split <;> simp_all
  · split
    · rename_i h; subst h; simp_all
    · rename_i h1 h2
      rw [if_neg (by omega)]
      cases s <;> simp_all <;> omega

/-- Cells that stand are what is read. -/
theorem hcells_ro {a : Addr} {n : Nat} {l : List Value} (hl : l.length = n) (h : ∀ i, i < n → W.cell? (a.add i) = l[i]?) : hcells (roHeap W) a n = some l := by
  cases n with
  | zero => simp [hcells, List.eq_nil_of_length_eq_zero hl]
  | succ n =>
    have h0 := h 0 (by omega)
    have e0 : a.add 0 = a := by unfold Addr.add; simp
    rw [e0] at h0
    unfold World.cell? at h0
    have hl0 : l[0]? = some l[0] := List.getElem?_eq_getElem (by omega)
    rw [hl0] at h0
    split at h0
    · rename_i c el fr hb
      split at h0
      · cases h0
      · rename_i hs
        have hs : a.spot = none := by simpa using hs
        have hc : ∀ i, i < n + 1 → c[a.off + i]? = l[i]? := by
          intro i hi
          have := h i hi
          unfold World.cell? at this
          rw [add_block, hb] at this
          simp only [add_spot hs, add_off, Option.isSome_none, Bool.false_eq_true, if_false] at this
          exact this
        have hsz : a.off + (n + 1) ≤ c.size := by
          have := hc n (by omega)
          rw [List.getElem?_eq_getElem (by omega)] at this
          rcases Nat.lt_or_ge (a.off + n) c.size with g | g
          · omega
          · rw [Array.getElem?_eq_none g] at this; cases this
        simp only [hcells, hs, roHeap, hb, Option.map_some]
        rw [if_pos hsz]
        congr 1
        apply List.ext_getElem?
        intro i
        rw [List.getElem?_take]
        by_cases hi : i < n + 1
        · rw [if_pos hi, List.getElem?_drop, Array.getElem?_toList, hc i hi]
        · rw [if_neg hi, List.getElem?_eq_none (by omega)]
    · cases h0

/-- A slice's rows, each read by a view. -/
theorem Shp.ok_rows {α : Type} {size : Nat} {e : Shp} {v : Value} (f : α → List Value) (Pr : α → Prop) (hf : ∀ x, (f x).length = size) (view : ∀ l, e.okC W l → ∃ x, l = f x ∧ Pr x) (h : Shp.ok W (.slice size e) v) :
    ∃ L : List α, Sl (roHeap W) size v L.length (L.flatMap f) ∧ L.length ≤ 9223372036854775807 ∧ ∀ x ∈ L, Pr x := by
  obtain ⟨h1, h2⟩ := h
  simp only [Shp.wide, Bool.false_eq_true, if_false] at h2
  rcases h1 with h1 | ⟨a, len, cap, h1, hl, hm, hc⟩
  · have := one_cells h2 h1
    subst this
    exact ⟨[], .inl ⟨rfl, rfl, rfl⟩, by simp, by simp⟩
  · have := one_cells h2 h1
    subst this
    have key : ∀ n, n ≤ len → ∃ L : List α, L.length = n ∧ (∀ x ∈ L, Pr x) ∧ ∀ j, j < n * size → W.cell? (a.add j) = (L.flatMap f)[j]? := by
      intro n
      induction n with
      | zero => intro _; exact ⟨[], rfl, by simp, by simp⟩
      | succ n ih =>
        intro hn
        obtain ⟨L, g1, g2, g3⟩ := ih (by omega)
        obtain ⟨l, w1, w2⟩ := hc n (by omega)
        obtain ⟨x, rfl, hx⟩ := view l w2
        obtain ⟨u1, u2⟩ := cells?_spec w1
        refine ⟨L ++ [x], by simp [g1], ?_, ?_⟩
        · intro y hy
          simp only [List.mem_append, List.mem_singleton] at hy
          rcases hy with hy | rfl
          · exact g2 y hy
          · exact hx
        · intro j hj
          have hfl : (L.flatMap f).length = n * size := by
            rw [List.length_flatMap]
            have : L.map (fun a => (f a).length) = List.replicate L.length size := by
              rw [List.eq_replicate_iff]
              simp [hf]
            rw [this, List.sum_replicate_nat, g1]
          rw [List.flatMap_append, List.flatMap_singleton]
          by_cases hj2 : j < n * size
          · rw [g3 j hj2, List.getElem?_append_left (by omega)]
          · rw [List.getElem?_append_right (by omega), hfl]
            have : (n + 1) * size = n * size + size := Nat.succ_mul _ _
            rw [← u2 (j - n * size) (by omega), add_add]
            congr 2; omega
    obtain ⟨L, g1, g2, g3⟩ := key len (Nat.le_refl _)
    refine ⟨L, .inr ⟨a, cap, by rw [g1], by omega, ?_⟩, by omega, g2⟩
    rw [g1]
    refine hcells_ro ?_ g3
    rw [List.length_flatMap]
    have : L.map (fun a => (f a).length) = List.replicate L.length size := by
      rw [List.eq_replicate_iff]
      simp [hf]
    rw [this, List.sum_replicate_nat, g1]
end
end Go.Bb
