/- The walk's laws on memory: blocks that were set. -/
import Derived.Test.YtgoifophjcbpaaaBbU
namespace Go.Bb
set_option linter.unusedSimpArgs false
set_option linter.unusedVariables false

section
variable {h : Heap} {b c : Nat} {x : Blk} {vs us : List Value} {sz off n size : Nat} {v : Value} {k : IntKind} {z : Int}

theorem hcell_self (hl : off < vs.length) : hcell (h.set b (.own 0 vs sz)) ⟨b, off, none⟩ = some vs[off] := by
  simp [hcell, Heap.set, List.getElem?_eq_getElem hl]
theorem hcell_at (hb : h b = some (.own 0 vs sz)) (hl : off < vs.length) : hcell h ⟨b, off, none⟩ = some vs[off] := by
  simp [hcell, hb, List.getElem?_eq_getElem hl]
theorem hcell_ne {s : Option Nat} (e : c ≠ b) : hcell (h.set b x) ⟨c, off, s⟩ = hcell h ⟨c, off, s⟩ := by
  simp [hcell, Heap.set_ne e]
theorem hcells_self (h1 : vs.length = n) : hcells (h.set b (.own 0 vs sz)) ⟨b, 0, none⟩ n = some vs := hcells_own0 (Heap.set_self _ _ _) h1
theorem hcells_self' (h1 : off + n ≤ vs.length) : hcells (h.set b (.own 0 vs sz)) ⟨b, off, none⟩ n = some ((vs.drop off).take n) := by
  rw [hcells_own (Heap.set_self _ _ _) (Nat.zero_le _) (by simpa using h1)]; simp
theorem hcells_at (hb : h b = some (.own 0 vs sz)) (h1 : off + n ≤ vs.length) : hcells h ⟨b, off, none⟩ n = some ((vs.drop off).take n) := by
  rw [hcells_own hb (Nat.zero_le _) (by simpa using h1)]; simp
theorem hcells_ne {s : Option Nat} (e : c ≠ b) : hcells (h.set b x) ⟨c, off, s⟩ n = hcells h ⟨c, off, s⟩ n := by
  cases n <;> simp [hcells, Heap.set_ne e]

theorem Heap.set_same (hb : h b = some x) : h.set b x = h := by
  funext c; simp only [Heap.set]; split
  · rename_i e; subst e; exact hb.symm
  · rfl
theorem Heap.set_comm {y : Blk} (e : c ≠ b) : (h.set b x).set c y = (h.set c y).set b x := by
  funext d; simp only [Heap.set]; split
  · rename_i e1; subst e1; rw [if_neg e]
  · rfl

theorem storeV_self (h0 : 0 < size) (h1 : v.cells.toList = us) (h2 : us.length = size) (h3 : us.all one = true) (h4 : off ≤ vs.length) (h5 : off + size ≤ sz) : storeV (h.set b (.own 0 vs sz)) size (.pointer (some ⟨b, off, none⟩)) v = some (h.set b (.own 0 (splice vs off us) sz)) := by
  have e1 : v.cells.size = size := by rw [← Array.length_toList, h1, h2]
  unfold storeV
  simp only
  rw [if_pos ⟨e1, by rw [h1]; exact h3⟩]
  cases us with
  | nil => simp at h2; omega
  | cons u us =>
    rw [h1]
    simp only [hstore, Heap.set_self]
    rw [if_pos ⟨Nat.zero_le _, by simpa using h4, by rw [h2]; exact h5⟩, Heap.set_set]
    simp
theorem storeV_one (h1 : one v = true) (h4 : off < vs.length) (h5 : vs.length ≤ sz) : storeV (h.set b (.own 0 vs sz)) 1 (.pointer (some ⟨b, off, none⟩)) v = some (h.set b (.own 0 (vs.set off v) sz)) := by
  have e : v.cells.toList = [v] := by cases v <;> first | rfl | (cases h1; done)
  rw [storeV_self (size := 1) (us := [v]) (by omega) e rfl (by simp [h1]) (by omega) (by omega)]
  congr 3
  unfold splice
  rw [List.set_eq_take_append_cons_drop, if_pos h4]
  simp
theorem storeV_agg (h0 : 0 < size) (h1 : us.length = size) (h2 : us.all one = true) (h4 : vs.length = size) (h5 : size ≤ sz) : storeV (h.set b (.own 0 vs sz)) size (.pointer (some ⟨b, 0, none⟩)) (.agg us.toArray) = some (h.set b (.own 0 us sz)) := by
  rw [storeV_self (us := us) h0 (by simp [Value.cells]) h1 h2 (by omega) (by omega)]
  congr 3
  unfold splice
  simp [h1, h4]
theorem storeV_one_at (hb : h b = some (.own 0 vs sz)) (h1 : one v = true) (h4 : off < vs.length) (h5 : vs.length ≤ sz) : storeV h 1 (.pointer (some ⟨b, off, none⟩)) v = some (h.set b (.own 0 (vs.set off v) sz)) := by
  have := storeV_one (h := h) (b := b) (sz := sz) h1 h4 h5
  rwa [Heap.set_same hb] at this
theorem storeV_agg_at (hb : h b = some (.own 0 vs sz)) (h0 : 0 < size) (h1 : us.length = size) (h2 : us.all one = true) (h4 : vs.length = size) (h5 : size ≤ sz) : storeV h size (.pointer (some ⟨b, 0, none⟩)) (.agg us.toArray) = some (h.set b (.own 0 us sz)) := by
  have := storeV_agg (h := h) (b := b) (sz := sz) h0 h1 h2 h4 h5
  rwa [Heap.set_same hb] at this
theorem hstore_ne {us : List Value} {s : Option Nat} (e : c ≠ b) : hstore (h.set b x) ⟨c, off, s⟩ us = (hstore h ⟨c, off, s⟩ us).map fun h' => h'.set b x := by
  cases us with
  | nil => rfl
  | cons u us =>
    simp only [hstore]
    cases s with
    | some s => rfl
    | none =>
      simp only [Heap.set_ne e]
      cases h c with
      | none => rfl
      | some y =>
        cases y with
        | own st ws sz =>
          simp only
          split
          · simp only [Option.map_some, Heap.set_comm e]
          · rfl
        | ro o => rfl
        | obj o => rfl
theorem storeV_ne {s : Option Nat} (e : c ≠ b) : storeV (h.set b x) size (.pointer (some ⟨c, off, s⟩)) v = (storeV h size (.pointer (some ⟨c, off, s⟩)) v).map fun h' => h'.set b x := by
  unfold storeV
  simp only
  split
  · rw [hstore_ne e]
  · rfl

theorem ne_of_none {h : Heap} {b c : Nat} {x : Blk} (hb : h b = none) (hc : h c = some x) : c ≠ b := by
  intro e; subst e; rw [hb] at hc; cases hc
theorem Heap.le_new {h h' : Heap} (x : h.le h') {b : Nat} (hb : h' b = none) (y : Blk) : h.le (h'.set b y) := Heap.le_set x (Heap.none_of_le x hb) y
theorem one_int : one (.int k z) = true := rfl
theorem one_bool {q : Bool} : one (.bool q) = true := rfl
theorem one_str {q : ByteArray} : one (.string q) = true := rfl
theorem one_ptr {q : Option Addr} : one (.pointer q) = true := rfl
theorem one_slice {q : Option Addr} {n m : Nat} : one (.slice q n m) = true := rfl
theorem one_map {q : Option Nat} : one (.map q) = true := rfl
end

theorem appendP_ow {size bytes n m : Nat} {h0 h : Heap} {v xv : Value} {cells news : List Value} {K : Value → Heap → Prop} (hle : h0.le h) (hsz : 0 < size) (s : Ow h0 h size v n cells) (x : Sl h size xv m news) (h1 : news.all one = true)
    (hb : (n + m) * bytes ≤ 140737488355328) (hm : n + m ≤ 9223372036854775807)
    (hk : ∀ v h', Ow h0 h' size v (n + m) (cells ++ news) → h0.le h' → K v h') : appendP size bytes h v xv K := by
  have hx := readX_sl x
  have hlen := x.length
  have h1' : ∀ u ∈ news, one u = true := fun u hu => List.all_eq_true.1 h1 u hu
  obtain ⟨base, c, rfl⟩ : ∃ base c, v = .slice base n c := by
    rcases s with ⟨rfl, rfl, _⟩ | ⟨b, o, c, sz, rfl, _⟩
    · exact ⟨_, _, rfl⟩
    · exact ⟨_, _, rfl⟩
  simp only [appendP, hx]
  exact append_ow hle hsz s hlen h1' hb hm hk
theorem Sl.lit {h : Heap} {b n sz size : Nat} {vs : List Value} (hl : vs.length = n * size) : Sl (h.set b (.own 0 vs sz)) size (.slice (some ⟨b, 0, none⟩) n n) n vs :=
  .inr ⟨⟨b, 0, none⟩, n, rfl, Nat.le_refl _, by rw [hcells_self hl]⟩
theorem Ow.new {h0 h : Heap} (hle : h0.le h) {b : Nat} (hb : h b = none) {size n c sz : Nat} {vs : List Value} (hl : vs.length = n * size) (hc : n ≤ c) (hs : c * size ≤ sz) : Ow h0 (h.set b (.own 0 vs sz)) size (.slice (some ⟨b, 0, none⟩) n c) n vs :=
  .inr ⟨b, 0, c, sz, rfl, hc, Heap.none_of_le hle hb, Heap.set_self _ _ _, hl, by omega⟩
end Go.Bb
