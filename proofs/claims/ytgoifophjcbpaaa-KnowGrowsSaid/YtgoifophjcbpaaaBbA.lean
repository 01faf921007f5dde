/- The heap in part: what a call owns and knows of memory; reading and writing its cells. -/
import Derived.Calls
import Derived.Below
namespace Go.Bb
set_option linter.unusedSimpArgs false
set_option linter.unusedVariables false

/-- What is known of a block: cells that are ours from a place on (with all behind them); an object that nobody writes; an object of ours that is no row of cells. -/
inductive Blk where
  | own (st : Nat) (vs : List Value) (sz : Nat)
  | ro (o : Obj)
  | obj (o : Obj)

abbrev Heap := Nat → Option Blk

def Heap.set (h : Heap) (b : Nat) (x : Blk) : Heap := fun c => if c = b then some x else h c
def Heap.le (h h' : Heap) : Prop := ∀ b x, h b = some x → h' b = some x

def Obj.notCells : Obj → Bool
  | .cells .. => false
  | _ => true

def one : Value → Bool
  | .agg _ | .tuple _ => false
  | _ => true

def BlkSat : Blk → Option Obj → Prop
  | .own st vs sz, o => ∃ carr e fr, o = some (.cells carr e fr) ∧ carr.size = sz ∧ st + vs.length ≤ sz ∧
      (∀ i v, vs[i]? = some v → carr[st + i]? = some v) ∧ (fr.1 = fr.2 ∨ sz ≤ fr.1)
  | .ro o', o => o = some o'
  | .obj o', o => o = some o' ∧ Obj.notCells o' = true

def Sat (h : Heap) (w : World) : Prop := ∀ b x, h b = some x → BlkSat x w.heap[b]?

/-- Nothing of ours stands there. -/
def Heap.free (h : Heap) (b : Nat) : Prop := h b = none ∨ ∃ o, h b = some (.ro o)

structure Fr (h h' : Heap) (w w' : World) : Prop where
  os : w'.os = w.os
  tape : w'.tape = w.tape
  output : w'.output = w.output
  size : w.heap.size ≤ w'.heap.size
  keep : ∀ b, b < w.heap.size → h.free b → w'.heap[b]? = w.heap[b]?
  fresh : ∀ b, h b = none → h' b ≠ none → w.heap.size ≤ b
  ro : ∀ b o, h b = some (.ro o) → h' b = some (.ro o)

theorem Fr.refl (h : Heap) (w : World) : Fr h h w w := ⟨rfl, rfl, rfl, Nat.le_refl _, fun _ _ _ => rfl, fun _ a b => absurd a b, fun _ _ h => h⟩

theorem Fr.trans {h h1 h2 : Heap} {w w1 w2 : World} (a : Fr h h1 w w1) (b : Fr h1 h2 w1 w2) : Fr h h2 w w2 := by
  refine ⟨b.os.trans a.os, b.tape.trans a.tape, b.output.trans a.output, Nat.le_trans a.size b.size, ?_, ?_, fun c o hc => b.ro c o (a.ro c o hc)⟩
  · intro c hc hf
    rw [b.keep c (Nat.lt_of_lt_of_le hc a.size), a.keep c hc hf]
    rcases hf with hf | ⟨o, ho⟩
    · left
      cases h1c : h1 c with
      | none => rfl
      | some x => exact absurd (a.fresh c hf (by simp [h1c])) (by omega)
    · exact .inr ⟨o, a.ro c o ho⟩
  · intro c hc h2c
    by_cases h1c : h1 c = none
    · exact Nat.le_trans a.size (b.fresh c h1c h2c)
    · exact a.fresh c hc h1c

/-- A draw changes nothing here. -/
theorem Sat.of_heap {h : Heap} {w w' : World} (e : w'.heap = w.heap) (s : Sat h w) : Sat h w' := fun b x hb => by rw [e]; exact s b x hb

theorem Fr.of_heap {h : Heap} {w w' : World} (e : w'.heap = w.heap) (h1 : w'.os = w.os) (h2 : w'.tape = w.tape) (h3 : w'.output = w.output) : Fr h h w w' :=
  ⟨h1, h2, h3, by rw [e]; exact Nat.le_refl _, fun _ _ _ => by rw [e], fun _ a b => absurd a b, fun _ _ h => h⟩

theorem Sat.lt {h : Heap} {w : World} (s : Sat h w) {b : Nat} {x : Blk} (hb : h b = some x) : b < w.heap.size := by
  have := s b x hb
  rcases Nat.lt_or_ge b w.heap.size with g | g
  · exact g
  · rw [Array.getElem?_eq_none g] at this
    cases x with
    | own st vs sz => obtain ⟨_, _, _, h, _⟩ := this; cases h
    | ro o => cases this
    | obj o => cases this.1

theorem Sat.none_of_ge {h : Heap} {w : World} (s : Sat h w) {b : Nat} (hb : w.heap.size ≤ b) : h b = none := by
  cases e : h b with
  | none => rfl
  | some x => exact absurd (s.lt e) (by omega)

/-! ### cells -/

def hcell (h : Heap) (a : Addr) : Option Value :=
  match a.spot with
  | some _ => none
  | none =>
    match h a.block with
    | some (.own st vs _) => if st ≤ a.off then vs[a.off - st]? else none
    | some (.ro (.cells c _ _)) => c[a.off]?
    | _ => none

theorem cell_of_hcell {h : Heap} {w : World} (s : Sat h w) {a : Addr} {v : Value} (e : hcell h a = some v) : w.cell? a = some v := by
  unfold hcell at e
  split at e
  · cases e
  · rename_i hs
    split at e
    · rename_i st vs sz hb
      obtain ⟨carr, el, fr, ho, hsz, hle, hc, hf⟩ := s _ _ hb
      split at e
      · rename_i hst
        have := hc _ _ e
        rw [show st + (a.off - st) = a.off from by omega] at this
        simp [World.cell?, ho, hs, this]
      · cases e
    · rename_i c el fr hb
      have ho := s _ _ hb
      simp only [BlkSat] at ho
      simp [World.cell?, ho, hs, e]
    · cases e

def hcells (h : Heap) (a : Addr) : Nat → Option (List Value)
  | 0 => some []
  | n + 1 =>
    match a.spot with
    | some _ => none
    | none =>
      match h a.block with
      | some (.own st vs _) => if st ≤ a.off ∧ a.off - st + (n + 1) ≤ vs.length then some ((vs.drop (a.off - st)).take (n + 1)) else none
      | some (.ro (.cells c _ _)) => if a.off + (n + 1) ≤ c.size then some ((c.toList.drop a.off).take (n + 1)) else none
      | _ => none

theorem hcells_length {h : Heap} {a : Addr} {n : Nat} {l : List Value} (e : hcells h a n = some l) : l.length = n := by
  cases n with
  | zero => simp [hcells] at e; subst e; rfl
  | succ n =>
    simp only [hcells] at e
    split at e
    · cases e
    · split at e
      · split at e
        · simp at e; subst e; simp; omega
        · cases e
      · split at e
        · simp at e; subst e; simp; omega
        · cases e
      · cases e

theorem add_off (a : Addr) (i : Nat) : (a.add i).off = a.off + i := by unfold Addr.add; split <;> simp_all
theorem add_block (a : Addr) (i : Nat) : (a.add i).block = a.block := by unfold Addr.add; split <;> simp_all
theorem add_spot {a : Addr} (h : a.spot = none) (i : Nat) : (a.add i).spot = none := by unfold Addr.add; split <;> simp_all

theorem hcell_of_hcells {h : Heap} {a : Addr} {n : Nat} {l : List Value} (e : hcells h a n = some l) {i : Nat} {v : Value} (hv : l[i]? = some v) : hcell h (a.add i) = some v := by
  cases n with
  | zero => simp [hcells] at e; subst e; simp at hv
  | succ n =>
    simp only [hcells] at e
    split at e
    · cases e
    · rename_i hs
      unfold hcell
      rw [add_spot hs, add_block, add_off]
      split at e
      · rename_i st vs sz hb
        split at e
        · rename_i hc
          simp at e; subst e
          rw [List.getElem?_take] at hv
          split at hv
          · rw [List.getElem?_drop] at hv
            simp only [hb]
            rw [if_pos (by omega), show a.off + i - st = a.off - st + i from by omega]
            exact hv
          · cases hv
        · cases e
      · rename_i c el fr hb
        split at e
        · rename_i hc
          simp at e; subst e
          rw [List.getElem?_take] at hv
          split at hv
          · rw [List.getElem?_drop] at hv
            simp only [hb]
            simpa using hv
          · cases hv
        · cases e
      · cases e

theorem cells_of_hcells {h : Heap} {w : World} (s : Sat h w) {a : Addr} {n : Nat} {l : List Value} (e : hcells h a n = some l) {i : Nat} {v : Value} (hv : l[i]? = some v) : w.cell? (a.add i) = some v :=
  cell_of_hcell s (hcell_of_hcells e hv)

/-! ### loads -/
theorem run_load {P : Program} {w : World} {α : Type} {a : Addr} {v : Value} (e : w.cell? a = some v) (k : Value → Sem α) : (load a >>= k).run P w = (k v).run P w := by
  simp [load, bind, Sem.bind, Sem.run, e]

theorem run_loadCellsFrom {P : Program} {w : World} (a : Addr) : ∀ (l : List Value) (i : Nat) (acc : Array Value), (∀ j v, l[j]? = some v → w.cell? (a.add (i + j)) = some v) →
    (loadCellsFrom a i l.length acc).run P w = .ok (acc ++ l.toArray) w
  | [], i, acc, _ => by simp [loadCellsFrom, pure, Sem.run]
  | v :: l, i, acc, hl => by
    simp only [List.length_cons, loadCellsFrom]
    rw [run_load (a := a.add i) (by simpa using hl 0 v rfl)]
    rw [run_loadCellsFrom a l (i + 1) (acc.push v) (fun j u hu => by have := hl (j + 1) u (by simpa using hu); rwa [show i + (j + 1) = i + 1 + j from by omega] at this)]
    simp

theorem run_loadCells {P : Program} {h : Heap} {w : World} (s : Sat h w) {a : Addr} {n : Nat} {l : List Value} (e : hcells h a n = some l) :
    (loadCells a n).run P w = .ok l.toArray w := by
  have := run_loadCellsFrom (P := P) (w := w) a l 0 #[] (fun j v hv => by rw [Nat.zero_add]; exact cells_of_hcells s e hv)
  rw [hcells_length e] at this
  simpa [loadCells] using this

/-! ### stores -/
/-- Cells written from a place on: within what is there, or right behind its end. -/
def splice (vs : List Value) (i : Nat) (us : List Value) : List Value := vs.take i ++ us ++ vs.drop (i + us.length)

def hstore (h : Heap) (a : Addr) (us : List Value) : Option Heap :=
  match us with
  | [] => some h
  | _ :: _ =>
    match a.spot with
    | some _ => none
    | none =>
      match h a.block with
      | some (.own st vs sz) => if st ≤ a.off ∧ a.off - st ≤ vs.length ∧ a.off + us.length ≤ sz then some (h.set a.block (.own st (splice vs (a.off - st) us) sz)) else none
      | _ => none

theorem splice_length {vs us : List Value} {i : Nat} (h : i ≤ vs.length) : (splice vs i us).length = max vs.length (i + us.length) := by
  simp [splice]; omega

theorem getElem?_splice {vs us : List Value} {i : Nat} (h : i ≤ vs.length) (j : Nat) :
    (splice vs i us)[j]? = if j < i then vs[j]? else if j < i + us.length then us[j - i]? else vs[j]? := by
  unfold splice
  rw [List.append_assoc, List.getElem?_append]
  have e : (vs.take i).length = i := by simp; omega
  rw [e]
  split
  · rw [List.getElem?_take]; simp [*]
  · rw [List.getElem?_append]
    split
    · rw [if_pos (by omega)]
    · rw [if_neg (by omega), List.getElem?_drop]
      congr 1; omega

theorem run_store {P : Program} {w : World} {α : Type} {a : Addr} {v u : Value} (h1 : one v = true) (e : w.cell? a = some u) (hf : w.frozen? a = false) (k : Unit → Sem α) :
    (store a v >>= k).run P w = (k ()).run P (w.setCell a v) := by
  simp only [store, bind, Sem.bind]
  cases v <;> simp_all [Sem.run, Sem.bind, one]

/-- A row of cells written, in one word. -/
def wrote (w : World) (b : Nat) (f : Array Value → Array Value) : World :=
  { w with heap := w.heap.modify b fun | .cells c e fr => .cells (f c) e fr | o => o }

theorem run_storeCells {P : Program} (a : Addr) (hs : a.spot = none) : ∀ (us : List Value) (i : Nat) (w : World) (carr : Array Value) (e : TypeId) (fr : Nat × Nat),
    w.heap[a.block]? = some (.cells carr e fr) → a.off + i + us.length ≤ carr.size → (∀ u ∈ us, one u = true) → (∀ j, a.off + i ≤ j → j < a.off + i + us.length → ¬ (fr.1 ≤ j ∧ j < fr.2)) →
    ∃ carr', (storeCells a us i).run P w = .ok () { w with heap := w.heap.setIfInBounds a.block (.cells carr' e fr) } ∧ carr'.size = carr.size ∧
      ∀ j, carr'[j]? = if a.off + i ≤ j ∧ j < a.off + i + us.length then us[j - (a.off + i)]? else carr[j]?
  | [], i, w, carr, e, fr, hb, _, _, _ => by
    refine ⟨carr, ?_, rfl, fun j => by simp; omega⟩
    have : w.heap.setIfInBounds a.block (.cells carr e fr) = w.heap := by
      apply Array.ext_getElem?
      intro k
      rw [Array.getElem?_setIfInBounds]
      split
      · rename_i hk; subst hk
        split
        · exact hb.symm
        · rename_i hk2; rw [Array.getElem?_eq_none (by omega)]
      · rfl
    simp [storeCells, pure, Sem.run, this]
  | u :: us, i, w, carr, e, fr, hb, hl, h1, hf => by
    simp only [List.length_cons] at hl hf
    have hcell : w.cell? (a.add i) = some (carr[a.off + i]'(by omega)) := by
      simp [World.cell?, add_block, add_off, add_spot hs, hb]
    have hfz : w.frozen? (a.add i) = false := by
      have := hf (a.off + i) (by omega) (by omega)
      simp only [World.frozen?, add_block, add_off, hb]
      simp; intro hh; exact Nat.le_of_not_lt fun hx => this ⟨hh, hx⟩
    simp only [storeCells]
    rw [run_store (h1 u (by simp)) hcell hfz]
    have hsz : a.block < w.heap.size := by
      rcases Nat.lt_or_ge a.block w.heap.size with g | g
      · exact g
      · rw [Array.getElem?_eq_none g] at hb; cases hb
    have hw : w.setCell (a.add i) u = { w with heap := w.heap.setIfInBounds a.block (.cells (carr.setIfInBounds (a.off + i) u) e fr) } := by
      simp only [World.setCell, add_block, add_off, add_spot hs]
      congr 1
      apply Array.ext_getElem?
      intro k
      rw [Array.getElem?_setIfInBounds, Array.getElem?_modify]
      split
      · rename_i hk; subst hk
        have hb' : w.heap[a.block] = .cells carr e fr := by simpa [hsz] using hb
        simp [hsz, hb']
      · rfl
    rw [hw]
    obtain ⟨carr', hr, hsz', hc'⟩ := run_storeCells a hs us (i + 1) { w with heap := w.heap.setIfInBounds a.block (.cells (carr.setIfInBounds (a.off + i) u) e fr) } (carr.setIfInBounds (a.off + i) u) e fr
      (by simp [hsz]) (by simp; omega) (fun x hx => h1 x (by simp [hx])) (fun j h2 h3 => hf j (by omega) (by omega))
    refine ⟨carr', ?_, by simpa using hsz', ?_⟩
    · rw [hr]; simp
    · intro j
      rw [hc' j]
      simp only [List.length_cons]
      by_cases h2 : a.off + (i + 1) ≤ j ∧ j < a.off + (i + 1) + us.length
      · rw [if_pos h2, if_pos (by omega)]
        rw [show j - (a.off + i) = (j - (a.off + (i + 1))) + 1 from by omega]
        simp
      · rw [if_neg h2, Array.getElem?_setIfInBounds]
        by_cases h3 : a.off + i = j
        · subst h3
          rw [if_pos rfl, if_pos (by omega), if_pos (by omega)]; simp
        · rw [if_neg h3, if_neg (by omega)]

theorem sat_set {h : Heap} {w w' : World} (s : Sat h w) {b : Nat} {x : Blk} (hx : BlkSat x w'.heap[b]?) (hk : ∀ c, c ≠ b → h c ≠ none → w'.heap[c]? = w.heap[c]?) : Sat (h.set b x) w' := by
  intro c y hc
  unfold Heap.set at hc
  split at hc
  · rename_i e; subst e; cases hc; exact hx
  · rename_i e; rw [hk c e (by simp [hc])]; exact s c y hc

theorem run_hstore {P : Program} {h h' : Heap} {w : World} (s : Sat h w) {a : Addr} {us : List Value} (h1 : ∀ u ∈ us, one u = true) (e : hstore h a us = some h') :
    ∃ w', (storeCells a us).run P w = .ok () w' ∧ Sat h' w' ∧ Fr h h' w w' := by
  cases us with
  | nil =>
    simp [hstore] at e; subst e
    exact ⟨w, by simp [storeCells, pure, Sem.run], s, Fr.refl _ _⟩
  | cons u us =>
    simp only [hstore] at e
    split at e
    · cases e
    · rename_i hs
      split at e
      · rename_i st vs sz hb
        split at e
        · rename_i hc
          simp only [Option.some.injEq] at e
          obtain ⟨carr, el, fr, ho, hsz, hle, hcs, hfz⟩ := s _ _ hb
          obtain ⟨hc1, hc2, hc3⟩ := hc
          obtain ⟨carr', hr, hsz', hc'⟩ := run_storeCells (P := P) a hs (u :: us) 0 w carr el fr ho (by omega) h1 (fun j h2 h3 h4 => by rcases hfz with h5 | h5 <;> omega)
          have hlt := s.lt hb
          refine ⟨_, hr, ?_, ?_⟩
          · rw [← e]
            refine sat_set s ?_ ?_
            · refine ⟨carr', el, fr, by simp [hlt], by omega, ?_, ?_, hfz⟩
              · rw [splice_length hc2]; omega
              · intro i v hv
                rw [getElem?_splice hc2] at hv
                rw [hc']
                by_cases g1 : i < a.off - st
                · rw [if_pos g1] at hv
                  rw [if_neg (by omega)]; exact hcs i v hv
                · rw [if_neg g1] at hv
                  by_cases g2 : i < a.off - st + (u :: us).length
                  · rw [if_pos g2] at hv
                    rw [if_pos (by omega), ← hv]; congr 1; omega
                  · rw [if_neg g2] at hv
                    rw [if_neg (by omega)]; exact hcs i v hv
            · intro c hne _
              simp [Array.getElem?_setIfInBounds_ne (Ne.symm hne)]
          · rw [← e]
            refine ⟨rfl, rfl, rfl, by simp, ?_, ?_, ?_⟩
            · intro b hlt' hf
              have hne : a.block ≠ b := by
                intro he; subst he
                rcases hf with hf | ⟨o, hf⟩ <;> rw [hb] at hf <;> cases hf
              simp [Array.getElem?_setIfInBounds_ne hne]
            · intro b hn hs'
              unfold Heap.set at hs'
              split at hs'
              · rename_i he; subst he; rw [hb] at hn; cases hn
              · exact absurd hn hs'
            · intro b o hro
              unfold Heap.set
              split
              · rename_i he; subst he; rw [hb] at hro; cases hro
              · exact hro
        · cases e
      · cases e

/-! ### new blocks -/
theorem sat_push {h : Heap} {w : World} (s : Sat h w) {x : Blk} {o : Obj} (hx : BlkSat x (some o)) : Sat (h.set w.heap.size x) { w with heap := w.heap.push o } :=
  sat_set s (by simpa using hx) (fun c hne hc => by
    have : c < w.heap.size := by
      cases e : h c with
      | none => exact absurd e hc
      | some y => exact s.lt e
    simp [Array.getElem?_push, Nat.ne_of_lt this])

theorem fr_push {h : Heap} {w : World} (s : Sat h w) (x : Blk) (o : Obj) : Fr h (h.set w.heap.size x) w { w with heap := w.heap.push o } := by
  refine ⟨rfl, rfl, rfl, by simp, ?_, ?_, ?_⟩
  · intro b hb _; simp [Array.getElem?_push, Nat.ne_of_lt hb]
  · intro b hn hs
    unfold Heap.set at hs
    split at hs
    · rename_i e; omega
    · exact absurd hn hs
  · intro b o' hro
    unfold Heap.set
    split
    · rename_i e; have := s.lt hro; omega
    · exact hro

theorem blkSat_own (vs : List Value) (e : TypeId) : BlkSat (.own 0 vs vs.length) (some (.cells vs.toArray e (0, 0))) :=
  ⟨vs.toArray, e, (0, 0), rfl, by simp, by simp, fun i v hv => by simpa using hv, .inl rfl⟩

end Go.Bb
