/- The engine: BbA BbB BbC BbD BbE BbF BbG BbH BbI. -/
import Derived.Calls
import Derived.Below
import Derived.Laws.Sem
import Derived.Laws.Entries
import Derived.Laws.StructEq
import Derived.ChangeKeysEq
import Derived.Laws.Externs
import Derived.KernelRfl
namespace Go.Bb
set_option linter.unusedSimpArgs false
set_option linter.unusedVariables false
inductive Blk where
  | own (st : Nat) (vs : List Value) (sz : Nat)
  | ro (o : Obj)
  | obj (o : Obj)
abbrev Heap := Nat → Option Blk
def Heap.set (h : Heap) (b : Nat) (x : Blk) : Heap := fun c => if c = b then some x else h c
def Heap.le (h h' : Heap) : Prop := ∀ b x, h b = some x → h' b = some x
def Obj.qco : Obj → Bool
  | .cells .. => false
  | _ => true
def one : Value → Bool
  | .agg _ | .tuple _ => false
  | _ => true
def q91 : Blk → Option Obj → Prop
  | .own st vs sz, o => ∃ carr e fr, o = some (.cells carr e fr) ∧ carr.size = sz ∧ st + vs.length ≤ sz ∧
      (∀ i v, vs[i]? = some v → carr[st + i]? = some v) ∧ (fr.1 = fr.2 ∨ sz ≤ fr.1)
  | .ro o', o => o = some o'
  | .obj o', o => o = some o' ∧ Obj.qco o' = true
def Sat (h : Heap) (w : World) : Prop := ∀ b x, h b = some x → q91 x w.heap[b]?
def Heap.free (h : Heap) (b : Nat) : Prop := h b = none ∨ ∃ o, h b = some (.ro o)
structure Fr (h h' : Heap) (w w' : World) : Prop where
  os : w'.os = w.os
  tape : w'.tape = w.tape
  output : w'.output = w.output ∧ w.drawn ≤ w'.drawn
  size : w.heap.size ≤ w'.heap.size
  keep : ∀ b, b < w.heap.size → h.free b → w'.heap[b]? = w.heap[b]?
  fresh : ∀ b, h b = none → h' b ≠ none → w.heap.size ≤ b
  ro : ∀ b o, h b = some (.ro o) → h' b = some (.ro o)
theorem Fr.qfx (h : Heap) (w : World) : Fr h h w w := ⟨rfl, rfl, ⟨rfl, Nat.le_refl _⟩, Nat.le_refl _, fun _ _ _ => rfl, fun _ a b => absurd a b, fun _ _ h => h⟩
theorem Fr.trans {h h1 h2 : Heap} {w w1 w2 : World} (a : Fr h h1 w w1) (b : Fr h1 h2 w1 w2) : Fr h h2 w w2 := by
  refine ⟨b.os.trans a.os, b.tape.trans a.tape, ⟨b.output.1.trans a.output.1, Nat.le_trans a.output.2 b.output.2⟩, Nat.le_trans a.size b.size, ?_, ?_, fun c o hc => b.ro c o (a.ro c o hc)⟩
  · intro c hc hf
    rw [b.keep c (Nat.lt_of_lt_of_le hc a.size), a.keep c hc hf]
    rcases hf with hf | ⟨o, ho⟩
    · left
      cases h1c : h1 c with
      | none => rfl
      | some x => exact absurd (a.fresh c hf (by simp [h1c])) (by omega)
    · exact .inr ⟨o, a.ro c o ho⟩
  · intro c hc h2c
    by_cases h1c : h1 c = none
    · exact Nat.le_trans a.size (b.fresh c h1c h2c)
    · exact a.fresh c hc h1c
theorem Sat.q9g {h : Heap} {w w' : World} (e : w'.heap = w.heap) (s : Sat h w) : Sat h w' := fun b x hb => by rw [e]; exact s b x hb
theorem Fr.qdm {h : Heap} {w w' : World} (e : w'.heap = w.heap) (h1 : w'.os = w.os) (h2 : w'.tape = w.tape) (h3 : w'.output = w.output ∧ w.drawn ≤ w'.drawn) : Fr h h w w' :=
  ⟨h1, h2, h3, by rw [e]; exact Nat.le_refl _, fun _ _ _ => by rw [e], fun _ a b => absurd a b, fun _ _ h => h⟩
theorem Sat.lt {h : Heap} {w : World} (s : Sat h w) {b : Nat} {x : Blk} (hb : h b = some x) : b < w.heap.size := by
  have := s b x hb
  rcases Nat.lt_or_ge b w.heap.size with g | g
  · exact g
  · rw [Array.getElem?_eq_none g] at this
    cases x with
    | own st vs sz => obtain ⟨_, _, _, h, _⟩ := this; cases h
    | ro o => cases this
    | obj o => cases this.1
theorem Sat.none_of_ge {h : Heap} {w : World} (s : Sat h w) {b : Nat} (hb : w.heap.size ≤ b) : h b = none := by
  cases e : h b with
  | none => rfl
  | some x => exact absurd (s.lt e) (by omega)
def q1r (h : Heap) (a : Addr) : Option Value :=
  match a.spot with
  | some _ => none
  | none =>
    match h a.block with
    | some (.own st vs _) => if st ≤ a.off then vs[a.off - st]? else none
    | some (.ro (.cells c _ _)) => c[a.off]?
    | _ => none
theorem qa7 {h : Heap} {w : World} (s : Sat h w) {a : Addr} {v : Value} (e : q1r h a = some v) : w.cell? a = some v := by
  unfold q1r at e
  split at e
  · cases e
  · rename_i hs
    split at e
    · rename_i st vs sz hb
      obtain ⟨carr, el, fr, ho, hsz, hle, hc, hf⟩ := s _ _ hb
      split at e
      · rename_i hst
        have := hc _ _ e
        rw [show st + (a.off - st) = a.off from by omega] at this
        simp [World.cell?, ho, hs, this]
      · cases e
    · rename_i c el fr hb
      have ho := s _ _ hb
      simp only [q91] at ho
      simp [World.cell?, ho, hs, e]
    · cases e
def q09 (h : Heap) (a : Addr) : Nat → Option (List Value)
  | 0 => some []
  | n + 1 =>
    match a.spot with
    | some _ => none
    | none =>
      match h a.block with
      | some (.own st vs _) => if st ≤ a.off ∧ a.off - st + (n + 1) ≤ vs.length then some ((vs.drop (a.off - st)).take (n + 1)) else none
      | some (.ro (.cells c _ _)) => if a.off + (n + 1) ≤ c.size then some ((c.toList.drop a.off).take (n + 1)) else none
      | _ => none
theorem q5i {h : Heap} {a : Addr} {n : Nat} {l : List Value} (e : q09 h a n = some l) : l.length = n := by
  cases n with
  | zero => simp [q09] at e; subst e; rfl
  | succ n =>
    simp only [q09] at e
    split at e
    · cases e
    · split at e
      · split at e
        · simp at e; subst e; simp; omega
        · cases e
      · split at e
        · simp at e; subst e; simp; omega
        · cases e
      · cases e
theorem qfu (a : Addr) (i : Nat) : (a.add i).off = a.off + i := by unfold Addr.add; split <;> simp_all
theorem qar (a : Addr) (i : Nat) : (a.add i).block = a.block := by unfold Addr.add; split <;> simp_all
theorem qeo {a : Addr} (h : a.spot = none) (i : Nat) : (a.add i).spot = none := by unfold Addr.add; split <;> simp_all
theorem qaj {h : Heap} {a : Addr} {n : Nat} {l : List Value} (e : q09 h a n = some l) {i : Nat} {v : Value} (hv : l[i]? = some v) : q1r h (a.add i) = some v := by
  cases n with
  | zero => simp [q09] at e; subst e; simp at hv
  | succ n =>
    simp only [q09] at e
    split at e
    · cases e
    · rename_i hs
      unfold q1r
      rw [qeo hs, qar, qfu]
      split at e
      · rename_i st vs sz hb
        split at e
        · rename_i hc
          simp at e; subst e
          rw [List.getElem?_take] at hv
          split at hv
          · rw [List.getElem?_drop] at hv
            simp only [hb]
            rw [if_pos (by omega), show a.off + i - st = a.off - st + i from by omega]
            exact hv
          · cases hv
        · cases e
      · rename_i c el fr hb
        split at e
        · rename_i hc
          simp at e; subst e
          rw [List.getElem?_take] at hv
          split at hv
          · rw [List.getElem?_drop] at hv
            simp only [hb]
            simpa using hv
          · cases hv
        · cases e
      · cases e
theorem qfm {h : Heap} {w : World} (s : Sat h w) {a : Addr} {n : Nat} {l : List Value} (e : q09 h a n = some l) {i : Nat} {v : Value} (hv : l[i]? = some v) : w.cell? (a.add i) = some v :=
  qa7 s (qaj e hv)
theorem run_load {P : Program} {w : World} {α : Type} {a : Addr} {v : Value} (e : w.cell? a = some v) (k : Value → Sem α) : (load a >>= k).run P w = (k v).run P w := by
  simp [load, bind, Sem.bind, Sem.run, e]
theorem q7r {P : Program} {w : World} (a : Addr) : ∀ (l : List Value) (i : Nat) (acc : Array Value), (∀ j v, l[j]? = some v → w.cell? (a.add (i + j)) = some v) →
    (loadCellsFrom a i l.length acc).run P w = .ok (acc ++ l.toArray) w
  | [], i, acc, _ => by simp [loadCellsFrom, pure, Sem.run]
  | v :: l, i, acc, hl => by
    simp only [List.length_cons, loadCellsFrom]
    rw [run_load (a := a.add i) (by simpa using hl 0 v rfl)]
    rw [q7r a l (i + 1) (acc.push v) (fun j u hu => by have := hl (j + 1) u (by simpa using hu); rwa [show i + (j + 1) = i + 1 + j from by omega] at this)]
    simp
theorem q7e {P : Program} {h : Heap} {w : World} (s : Sat h w) {a : Addr} {n : Nat} {l : List Value} (e : q09 h a n = some l) :
    (loadCells a n).run P w = .ok l.toArray w := by
  have := q7r (P := P) (w := w) a l 0 #[] (fun j v hv => by rw [Nat.zero_add]; exact qfm s e hv)
  rw [q5i e] at this
  simpa [loadCells] using this
def qc4 (vs : List Value) (i : Nat) (us : List Value) : List Value := vs.take i ++ us ++ vs.drop (i + us.length)
def q7p (h : Heap) (a : Addr) (us : List Value) : Option Heap :=
  match us with
  | [] => some h
  | _ :: _ =>
    match a.spot with
    | some _ => none
    | none =>
      match h a.block with
      | some (.own st vs sz) => if st ≤ a.off ∧ a.off - st ≤ vs.length ∧ a.off + us.length ≤ sz then some (h.set a.block (.own st (qc4 vs (a.off - st) us) sz)) else none
      | _ => none
theorem qgo {vs us : List Value} {i : Nat} (h : i ≤ vs.length) : (qc4 vs i us).length = max vs.length (i + us.length) := by
  simp [qc4]; omega
theorem getElem?_splice {vs us : List Value} {i : Nat} (h : i ≤ vs.length) (j : Nat) :
    (qc4 vs i us)[j]? = if j < i then vs[j]? else if j < i + us.length then us[j - i]? else vs[j]? := by
  unfold qc4
  rw [List.append_assoc, List.getElem?_append]
  have e : (vs.take i).length = i := by simp; omega
  rw [e]
  split
  · rw [List.getElem?_take]; simp [*]
  · rw [List.getElem?_append]
    split
    · rw [if_pos (by omega)]
    · rw [if_neg (by omega), List.getElem?_drop]
      congr 1; omega
theorem qko {P : Program} {w : World} {α : Type} {a : Addr} {v u : Value} (h1 : one v = true) (e : w.cell? a = some u) (hf : w.frozen? a = false) (k : Unit → Sem α) :
    (store a v >>= k).run P w = (k ()).run P (w.setCell a v) := by
  simp only [store, bind, Sem.bind]
  cases v <;> simp_all [Sem.run, Sem.bind, one]
theorem q9f {P : Program} (a : Addr) (hs : a.spot = none) : ∀ (us : List Value) (i : Nat) (w : World) (carr : Array Value) (e : TypeId) (fr : Nat × Nat),
    w.heap[a.block]? = some (.cells carr e fr) → a.off + i + us.length ≤ carr.size → (∀ u ∈ us, one u = true) → (∀ j, a.off + i ≤ j → j < a.off + i + us.length → ¬ (fr.1 ≤ j ∧ j < fr.2)) →
    ∃ carr', (storeCells a us i).run P w = .ok () { w with heap := w.heap.setIfInBounds a.block (.cells carr' e fr) } ∧ carr'.size = carr.size ∧
      ∀ j, carr'[j]? = if a.off + i ≤ j ∧ j < a.off + i + us.length then us[j - (a.off + i)]? else carr[j]?
  | [], i, w, carr, e, fr, hb, _, _, _ => by
    refine ⟨carr, ?_, rfl, fun j => by simp; omega⟩
    have : w.heap.setIfInBounds a.block (.cells carr e fr) = w.heap := by
      apply Array.ext_getElem?
      intro k
      rw [Array.getElem?_setIfInBounds]
      split
      · rename_i hk; subst hk
        split
        · exact hb.symm
        · rename_i hk2; rw [Array.getElem?_eq_none (by omega)]
      · rfl
    simp [storeCells, pure, Sem.run, this]
  | u :: us, i, w, carr, e, fr, hb, hl, h1, hf => by
    simp only [List.length_cons] at hl hf
    have q1r : w.cell? (a.add i) = some (carr[a.off + i]'(by omega)) := by
      simp [World.cell?, qar, qfu, qeo hs, hb]
    have hfz : w.frozen? (a.add i) = false := by
      have := hf (a.off + i) (by omega) (by omega)
      simp only [World.frozen?, qar, qfu, hb]
      simp; intro hh; exact Nat.le_of_not_lt fun hx => this ⟨hh, hx⟩
    simp only [storeCells]
    rw [qko (h1 u (by simp)) q1r hfz]
    have hsz : a.block < w.heap.size := by
      rcases Nat.lt_or_ge a.block w.heap.size with g | g
      · exact g
      · rw [Array.getElem?_eq_none g] at hb; cases hb
    have hw : w.setCell (a.add i) u = { w with heap := w.heap.setIfInBounds a.block (.cells (carr.setIfInBounds (a.off + i) u) e fr) } := by
      simp only [World.setCell, qar, qfu, qeo hs]
      congr 1
      apply Array.ext_getElem?
      intro k
      rw [Array.getElem?_setIfInBounds, Array.getElem?_modify]
      split
      · rename_i hk; subst hk
        have hb' : w.heap[a.block] = .cells carr e fr := by simpa [hsz] using hb
        simp [hsz, hb']
      · rfl
    rw [hw]
    obtain ⟨carr', hr, hsz', hc'⟩ := q9f a hs us (i + 1) { w with heap := w.heap.setIfInBounds a.block (.cells (carr.setIfInBounds (a.off + i) u) e fr) } (carr.setIfInBounds (a.off + i) u) e fr
      (by simp [hsz]) (by simp; omega) (fun x hx => h1 x (by simp [hx])) (fun j h2 h3 => hf j (by omega) (by omega))
    refine ⟨carr', ?_, by simpa using hsz', ?_⟩
    · rw [hr]; simp
    · intro j
      rw [hc' j]
      simp only [List.length_cons]
      by_cases h2 : a.off + (i + 1) ≤ j ∧ j < a.off + (i + 1) + us.length
      · rw [if_pos h2, if_pos (by omega)]
        rw [show j - (a.off + i) = (j - (a.off + (i + 1))) + 1 from by omega]
        simp
      · rw [if_neg h2, Array.getElem?_setIfInBounds]
        by_cases h3 : a.off + i = j
        · subst h3
          rw [if_pos rfl, if_pos (by omega), if_pos (by omega)]; simp
        · rw [if_neg h3, if_neg (by omega)]
theorem qev {h : Heap} {w w' : World} (s : Sat h w) {b : Nat} {x : Blk} (hx : q91 x w'.heap[b]?) (hk : ∀ c, c ≠ b → h c ≠ none → w'.heap[c]? = w.heap[c]?) : Sat (h.set b x) w' := by
  intro c y hc
  unfold Heap.set at hc
  split at hc
  · rename_i e; subst e; cases hc; exact hx
  · rename_i e; rw [hk c e (by simp [hc])]; exact s c y hc
theorem qcx {P : Program} {h h' : Heap} {w : World} (s : Sat h w) {a : Addr} {us : List Value} (h1 : ∀ u ∈ us, one u = true) (e : q7p h a us = some h') :
    ∃ w', (storeCells a us).run P w = .ok () w' ∧ Sat h' w' ∧ Fr h h' w w' := by
  cases us with
  | nil =>
    simp [q7p] at e; subst e
    exact ⟨w, by simp [storeCells, pure, Sem.run], s, Fr.qfx _ _⟩
  | cons u us =>
    simp only [q7p] at e
    split at e
    · cases e
    · rename_i hs
      split at e
      · rename_i st vs sz hb
        split at e
        · rename_i hc
          simp only [Option.some.injEq] at e
          obtain ⟨carr, el, fr, ho, hsz, hle, hcs, hfz⟩ := s _ _ hb
          obtain ⟨hc1, hc2, hc3⟩ := hc
          obtain ⟨carr', hr, hsz', hc'⟩ := q9f (P := P) a hs (u :: us) 0 w carr el fr ho (by omega) h1 (fun j h2 h3 h4 => by rcases hfz with h5 | h5 <;> omega)
          have hlt := s.lt hb
          refine ⟨_, hr, ?_, ?_⟩
          · rw [← e]
            refine qev s ?_ ?_
            · refine ⟨carr', el, fr, by simp [hlt], by omega, ?_, ?_, hfz⟩
              · rw [qgo hc2]; omega
              · intro i v hv
                rw [getElem?_splice hc2] at hv
                rw [hc']
                by_cases g1 : i < a.off - st
                · rw [if_pos g1] at hv
                  rw [if_neg (by omega)]; exact hcs i v hv
                · rw [if_neg g1] at hv
                  by_cases g2 : i < a.off - st + (u :: us).length
                  · rw [if_pos g2] at hv
                    rw [if_pos (by omega), ← hv]; congr 1; omega
                  · rw [if_neg g2] at hv
                    rw [if_neg (by omega)]; exact hcs i v hv
            · intro c hne _
              simp [Array.getElem?_setIfInBounds_ne (Ne.symm hne)]
          · rw [← e]
            refine ⟨rfl, rfl, ⟨rfl, Nat.le_refl _⟩, by simp, ?_, ?_, ?_⟩
            · intro b hlt' hf
              have hne : a.block ≠ b := by
                intro he; subst he
                rcases hf with hf | ⟨o, hf⟩ <;> rw [hb] at hf <;> cases hf
              simp [Array.getElem?_setIfInBounds_ne hne]
            · intro b hn hs'
              unfold Heap.set at hs'
              split at hs'
              · rename_i he; subst he; rw [hb] at hn; cases hn
              · exact absurd hn hs'
            · intro b o hro
              unfold Heap.set
              split
              · rename_i he; subst he; rw [hb] at hro; cases hro
              · exact hro
        · cases e
      · cases e
theorem qau {h : Heap} {w : World} (s : Sat h w) {x : Blk} {o : Obj} (hx : q91 x (some o)) : Sat (h.set w.heap.size x) { w with heap := w.heap.push o } :=
  qev s (by simpa using hx) (fun c hne hc => by
    have : c < w.heap.size := by
      cases e : h c with
      | none => exact absurd e hc
      | some y => exact s.lt e
    simp [Array.getElem?_push, Nat.ne_of_lt this])
theorem qdd {h : Heap} {w : World} (s : Sat h w) (x : Blk) (o : Obj) : Fr h (h.set w.heap.size x) w { w with heap := w.heap.push o } := by
  refine ⟨rfl, rfl, ⟨rfl, Nat.le_refl _⟩, by simp, ?_, ?_, ?_⟩
  · intro b hb _; simp [Array.getElem?_push, Nat.ne_of_lt hb]
  · intro b hn hs
    unfold Heap.set at hs
    split at hs
    · rename_i e; omega
    · exact absurd hn hs
  · intro b o' hro
    unfold Heap.set
    split
    · rename_i e; have := s.lt hro; omega
    · exact hro
theorem qdj (vs : List Value) (e : TypeId) : q91 (.own 0 vs vs.length) (some (.cells vs.toArray e (0, 0))) :=
  ⟨vs.toArray, e, (0, 0), rfl, by simp, by simp, fun i v hv => by simpa using hv, .inl rfl⟩
inductive Opd where
  | t (i : Nat)
  | c (v : Value)
  | f (n : Nat)
inductive EqK where
  | bool | ptr | slice | map | func
inductive KeyT where
  | int | str | agg (ks : List (Option IntKind))     -- of each cell: an integer of that kind, or a text
inductive Prim where
  | add64 | sub64
inductive AOp where
  | mv (x : Opd)
  | num (n : Nat)
  | pick (c a b : Opd)
  | load (k : Option Nat) (x : Opd)
  | nilc (x : Opd)
  | bin (op : BinOp) (x y : Opd)
  | eqv (k : EqK) (ne : Bool) (x y : Opd)
  | eqa (ks : List (Option IntKind)) (ne : Bool) (x y : Opd)
  | un (op : UnOp) (x : Opd)
  | conv (k : IntKind) (x : Opd)
  | strOf (x : Opd)
  | strId (x : Opd)
  | faddr (off : Nat) (x : Opd)
  | field (k : Option Nat) (off : Nat) (x : Opd)
  | iaddrA (n size : Nat) (x i : Opd)
  | iaddrS (size : Nat) (x i : Opd)
  | idxA (n size : Nat) (k : Option Nat) (x i : Opd)
  | idxS (x i : Opd)
  | ext (x : Opd) (i : Nat)
  | lenS (x : Opd)
  | lenStr (x : Opd)
  | capS (x : Opd)
  | mn (x y : Opd)
  | mx (x y : Opd)
  | slStr (x : Opd) (lo hi : Option Opd)
  | slSl (size : Nat) (x : Opd) (lo hi m : Option Opd)
  | slArr (n size : Nat) (x : Opd) (lo hi m : Option Opd)
  | arrOf (n : Nat) (x : Opd)
  | fn (n : Nat) (first captured : List Opd)
  | build (z : List Value) (parts : List (Nat × Nat × Opd))
  | prim (p : Prim) (xs : List Opd)
  | lookup (kt : KeyT) (z : Value) (ok : Bool) (m k : Opd)
  | lenM (m : Opd)
  | alloc (z : List Value)
  | box (x : Opd)
  | bslice (n size : Nat) (z : List Value) (parts : List (Nat × Nat × Opd))
  | mslice (bytes : Nat) (z : List Value) (l c : Opd)
  | mmap
  | store (size : Nat) (a x : Opd)
  | call (n : Nat) (args : List Opd)
  | callv (f : Opd) (args : List Opd)
  | append (size bytes : Nat) (s x : Opd)
  | appendZ (size bytes : Nat) (z : List Value) (s n : Opd)
  | copy (size : Nat) (d s : Opd)
  | mupd (kt : KeyT) (m k v : Opd)
  | mdel (kt : KeyT) (m k : Opd)
  | bytesOf (x : Opd)
  | mark (x : Opd)
  | rangeM (x : Opd)
  | nextM (x : Opd)
  | entryM (x : Opd)
  | bad
abbrev T := Nat → Option Value
def tl : List (Nat × Value) → T
  | [] => fun _ => none
  | (j, v) :: r => fun i => if i = j then some v else tl r i
def tput (t : T) (d : Option Nat) (v : Value) : T :=
  match d with
  | none => t
  | some d => fun i => if i = d then some v else t i
def qhg (ks : List Nat) (t : T) : T := tl (ks.filterMap fun k => (t k).map fun v => (k, v))
def oev (fid : Nat → Option FuncId) (t : T) : Opd → Option Value
  | .t i => t i
  | .c v => some v
  | .f n => (fid n).map fun f => .func (.func f) #[] #[]
def allV (ρ : Opd → Option Value) : List Opd → Option (List Value)
  | [] => some []
  | x :: xs =>
    match ρ x, allV ρ xs with
    | some v, some vs => some (v :: vs)
    | _, _ => none
def binV : BinOp → Value → Value → Option Value
  | .shl, .int k a, .int _ b => if b < 0 then none else some (.int k (k.wrap (a * 2 ^ (min b.toNat k.bits))))
  | .shr, .int k a, .int _ b => if b < 0 then none else some (.int k (a.fdiv (2 ^ (min b.toNat k.bits))))
  | .add, .int k a, .int k' b => if k = k' then some (.int k (k.wrap (a + b))) else none
  | .sub, .int k a, .int k' b => if k = k' then some (.int k (k.wrap (a - b))) else none
  | .mul, .int k a, .int k' b => if k = k' then some (.int k (k.wrap (a * b))) else none
  | .quo, .int k a, .int k' b => if k = k' then if b = 0 then none else some (.int k (k.wrap (a.tdiv b))) else none
  | .rem, .int k a, .int k' b => if k = k' then if b = 0 then none else some (.int k (a.tmod b)) else none
  | .and, .int k a, .int k' b => if k = k' then some (.int k (k.wrap (BitVec.ofInt k.bits a &&& BitVec.ofInt k.bits b).toNat)) else none
  | .or, .int k a, .int k' b => if k = k' then some (.int k (k.wrap (BitVec.ofInt k.bits a ||| BitVec.ofInt k.bits b).toNat)) else none
  | .xor, .int k a, .int k' b => if k = k' then some (.int k (k.wrap (BitVec.ofInt k.bits a ^^^ BitVec.ofInt k.bits b).toNat)) else none
  | .andNot, .int k a, .int k' b => if k = k' then some (.int k (k.wrap (BitVec.ofInt k.bits a &&& ~~~ BitVec.ofInt k.bits b).toNat)) else none
  | .eql, .int k a, .int k' b => if k = k' then some (.bool (a == b)) else none
  | .neq, .int k a, .int k' b => if k = k' then some (.bool (a != b)) else none
  | .lss, .int k a, .int k' b => if k = k' then some (.bool (decide (a < b))) else none
  | .leq, .int k a, .int k' b => if k = k' then some (.bool (decide (a ≤ b))) else none
  | .gtr, .int k a, .int k' b => if k = k' then some (.bool (decide (a > b))) else none
  | .geq, .int k a, .int k' b => if k = k' then some (.bool (decide (a ≥ b))) else none
  | .eql, .string a, .string b => some (.bool (a.toList == b.toList))
  | .neq, .string a, .string b => some (.bool (!(a.toList == b.toList)))
  | .lss, .string a, .string b => some (.bool (Op.bytesLess a.toList b.toList))
  | .leq, .string a, .string b => some (.bool (Op.bytesLess a.toList b.toList || a.toList == b.toList))
  | .gtr, .string a, .string b => some (.bool (!(Op.bytesLess a.toList b.toList || a.toList == b.toList)))
  | .geq, .string a, .string b => some (.bool (!(Op.bytesLess a.toList b.toList)))
  | .add, .string a, .string b => if a.size + b.size ≤ 9223372036854775807 then some (.string (a ++ b)) else none
  | _, _, _ => none
def eqV : EqK → Value → Value → Option Bool
  | .bool, .bool a, .bool b => some (a == b)
  | .ptr, .pointer none, .pointer b => some b.isNone
  | .ptr, .pointer (some _), .pointer none => some false
  | .slice, .slice none _ _, .slice b _ _ => some b.isNone
  | .slice, .slice (some _) _ _, .slice none _ _ => some false
  | .map, .map none, .map b => some b.isNone
  | .map, .map (some _), .map none => some false
  | .func, .nilFunc, .nilFunc => some true
  | .func, .nilFunc, .func _ _ _ => some false
  | .func, .func _ _ _, .nilFunc => some false
  | _, _, _ => none
def q8p : Option IntKind → Value → Bool
  | some k, .int k' _ => decide (k = k')
  | none, .string _ => true
  | _, _ => false
def q05 : List (Option IntKind) → List Value → Bool
  | [], [] => true
  | k :: ks, v :: vs => q8p k v && q05 ks vs
  | _, _ => false
def qcb : Value → Value → Bool
  | .int _ a, .int _ b => a == b
  | .string a, .string b => a.toList == b.toList
  | _, _ => false
def q0k : List Value → List Value → Bool
  | [], [] => true
  | a :: as, b :: bs => qcb a b && q0k as bs
  | _, _ => false
def unV : UnOp → Value → Option Value
  | .neg, .int k n => some (.int k (k.wrap (0 - n)))
  | .xor, .int k n => some (.int k (k.wrap (BitVec.ofInt k.bits (if k.signed then -1 else k.max) ^^^ BitVec.ofInt k.bits n).toNat))
  | .not, .bool b => some (.bool !b)
  | _, _ => none
def z6n (cells : List Value) : List (Nat × Nat × Value) → Option (List Value)
  | [] => some cells
  | (off, size, v) :: r => if v.cells.size = size ∧ off + size ≤ cells.length then z6n (cells.take off ++ v.cells.toList ++ cells.drop (off + size)) r else none
def allP (ρ : Opd → Option Value) : List (Nat × Nat × Opd) → Option (List (Nat × Nat × Value))
  | [] => some []
  | (a, b, x) :: xs =>
    match ρ x, allP ρ xs with
    | some v, some vs => some ((a, b, v) :: vs)
    | _, _ => none
def qbk : List Value → Option (List UInt8)
  | [] => some []
  | .int .u8 n :: r => (qbk r).map (UInt8.ofNat n.toNat :: ·)
  | _ => none
def bndV (d : Nat) (most : Nat) : Option (Option Value) → Option Nat
  | none => some d
  | some (some (.int _ i)) => if 0 ≤ i ∧ i ≤ most then some i.toNat else none
  | some _ => none
def oOpt (ρ : Opd → Option Value) : Option Opd → Option (Option Value)
  | none => none
  | some x => some (ρ x)
def bnds (len cap : Nat) (lo hi m : Option (Option Value)) : Option (Nat × Nat × Nat) :=
  match bndV cap cap m with
  | none => none
  | some m' =>
    match (if m.isSome && hi.isNone then none else bndV len m' hi) with
    | none => none
    | some h =>
      match bndV 0 h lo with
      | none => none
      | some l => some (l, h, m')
def qks : Prim → List Value → Option Value
  | .add64, [.int _ x, .int _ y, .int _ c] => if c = 0 ∨ c = 1 then some (.tuple #[.int .u64 (((x.toNat + y.toNat + c.toNat) % 18446744073709551616 : Nat) : Int), .int .u64 (((x.toNat + y.toNat + c.toNat) / 18446744073709551616 : Nat) : Int)]) else none
  | .sub64, [.int _ x, .int _ y, .int _ b] => if b = 0 ∨ b = 1 then some (.tuple #[.int .u64 (((x.toNat + 18446744073709551616 - y.toNat - b.toNat) % 18446744073709551616 : Nat) : Int), .int .u64 (((if x.toNat < y.toNat + b.toNat then 1 else 0) : Nat) : Int)]) else none
  | _, _ => none
def keyV : KeyT → Value → Value → Option Bool
  | .int, .int k a, .int k' b => if k = k' then some (a == b) else none
  | .str, .string a, .string b => some (a.toList == b.toList)
  | .agg ks, .agg a, .agg b => if q05 ks a.toList && q05 ks b.toList then some (q0k a.toList b.toList) else none
  | _, _, _ => none
def q96 (kt : KeyT) (k : Value) : Option Unit :=
  match kt, k with
  | .agg ks, .agg a => if q05 ks a.toList = true then some () else none
  | .agg _, _ => none
  | _, _ => some ()
def q6d (kt : KeyT) (k : Value) : List MapEntry → Nat → Option (Option (Nat × Value))
  | [], _ => some none
  | e :: es, i =>
    match keyV kt k e.key with
    | some true => some (some (i, e.val))
    | some false => q6d kt k es (i + 1)
    | none => none
def q8n (h : Heap) (r : Nat) : Option (Array MapEntry × Nat) :=
  match h r with
  | some (.obj (.map es c)) => some (es, c)
  | some (.ro (.map es c)) => some (es, c)
  | _ => none
def z6q (h : Heap) (a : Addr) : Option Nat → Option Value
  | none => q1r h a
  | some n => (q09 h a n).map fun l => .agg l.toArray
def z6r (cs : List Value) (off : Nat) : Option Nat → Option Value
  | none => cs[off]?
  | some n => some (.agg ((cs.drop off).take n).toArray)
def q00 (fid : Nat → Option FuncId) (ρ : Opd → Option Value) (h : Heap) : AOp → Option Value
  | .mv x => ρ x
  | .num n => some (.int .i64 n)
  | .pick c a b => match ρ c with | some (.bool q) => if q = true then ρ a else ρ b | _ => none
  | .load k x =>
    match ρ x with
    | some (.pointer (some a)) => z6q h a k
    | _ => none
  | .nilc x => match ρ x with | some (.pointer (some a)) => some (.pointer (some a)) | some (.func (.func f) a b) => some (.func (.func f) a b) | _ => none
  | .bin op x y => match ρ x, ρ y with | some a, some b => binV op a b | _, _ => none
  | .eqv k ne x y => match ρ x, ρ y with | some a, some b => (eqV k a b).map fun q => .bool (if ne = true then !q else q) | _, _ => none
  | .eqa ks ne x y =>
    match ρ x, ρ y with
    | some (.agg a), some (.agg b) => if (q05 ks a.toList && q05 ks b.toList) = true then some (.bool (if ne = true then !(q0k a.toList b.toList) else q0k a.toList b.toList)) else none
    | _, _ => none
  | .un op x => match ρ x with | some a => unV op a | _ => none
  | .conv k x => match ρ x with | some (.int _ n) => some (.int k (k.wrap n)) | _ => none
  | .strOf x =>
    match ρ x with
    | some (.slice none _ _) => some (.string .empty)
    | some (.slice (some a) n _) => match q09 h a n with | some l => (qbk l).map fun bs => .string ⟨bs.toArray⟩ | none => none
    | _ => none
  | .strId x => match ρ x with | some (.string s) => some (.string s) | _ => none
  | .faddr off x => match ρ x with | some (.pointer (some a)) => if a.spot = none then some (.pointer (some ⟨a.block, a.off + off, none⟩)) else none | _ => none
  | .field k off x =>
    match ρ x with
    | some (.agg cs) => z6r cs.toList off k
    | _ => none
  | .iaddrA n size x i =>
    match ρ x, ρ i with
    | some (.pointer (some a)), some (.int _ j) => if a.spot = none ∧ 0 ≤ j ∧ j < n then some (.pointer (some ⟨a.block, a.off + j.toNat * size, none⟩)) else none
    | _, _ => none
  | .iaddrS size x i =>
    match ρ x, ρ i with
    | some (.slice (some a) n _), some (.int _ j) => if a.spot = none ∧ 0 ≤ j ∧ j < n then some (.pointer (some ⟨a.block, a.off + j.toNat * size, none⟩)) else none
    | _, _ => none
  | .idxA n size k x i =>
    match ρ x, ρ i with
    | some (.agg cs), some (.int _ j) =>
      if 0 ≤ j ∧ j < n then z6r cs.toList (j.toNat * size) k else none
    | _, _ => none
  | .idxS x i =>
    match ρ x, ρ i with
    | some (.string s), some (.int _ j) => if 0 ≤ j then (s.data.toList[j.toNat]?).map fun b => .int .u8 b.toNat else none
    | _, _ => none
  | .ext x i => match ρ x with | some (.tuple vs) => vs.toList[i]? | _ => none
  | .lenS x => match ρ x with | some (.slice _ n _) => some (.int .i64 n) | _ => none
  | .lenStr x => match ρ x with | some (.string s) => some (.int .i64 s.size) | _ => none
  | .capS x => match ρ x with | some (.slice _ _ n) => some (.int .i64 n) | _ => none
  | .mn x y => match ρ x, ρ y with | some (.int k a), some (.int _ b) => some (.int k (if b < a then b else a)) | _, _ => none
  | .mx x y => match ρ x, ρ y with | some (.int k a), some (.int _ b) => some (.int k (if b > a then b else a)) | _, _ => none
  | .slStr x lo hi =>
    match ρ x with
    | some (.string s) => match bnds s.size s.size (oOpt ρ lo) (oOpt ρ hi) none with | some (l, h, _) => some (.string (s.extract l h)) | none => none
    | _ => none
  | .slSl size x lo hi m =>
    match ρ x with
    | some (.slice a len cap) =>
      match bnds len cap (oOpt ρ lo) (oOpt ρ hi) (oOpt ρ m) with
      | some (l, h, m') => some (.slice (if m' = l then a else a.map (·.add (l * size))) (h - l) (m' - l))
      | none => none
    | _ => none
  | .slArr n size x lo hi m =>
    match ρ x with
    | some (.pointer (some a)) =>
      match bnds n n (oOpt ρ lo) (oOpt ρ hi) (oOpt ρ m) with
      | some (l, h, m') => some (.slice (some (if m' = l then a else a.add (l * size))) (h - l) (m' - l))
      | none => none
    | _ => none
  | .arrOf n x => match ρ x with | some (.slice a len _) => if len < n then none else some (.pointer a) | _ => none
  | .fn n first captured =>
    match fid n, allV ρ first, allV ρ captured with
    | some f, some a, some b => some (.func (.func f) a.toArray b.toArray)
    | _, _, _ => none
  | .build z parts =>
    match allP ρ parts with
    | some ps => (z6n z ps).map fun l => .agg l.toArray
    | none => none
  | .prim p xs => match allV ρ xs with | some vs => qks p vs | none => none
  | .lookup kt z ok m k =>
    match ρ m, ρ k with
    | some (.map none), some kv => (q96 kt kv).map fun _ => if ok = true then .tuple #[z, .bool false] else z
    | some (.map (some r)), some kv =>
      match q8n h r with
      | some (es, _) =>
        match q96 kt kv, q6d kt kv es.toList 0 with
        | some _, some (some (_, v)) => some (if ok = true then .tuple #[v, .bool true] else v)
        | some _, some none => some (if ok = true then .tuple #[z, .bool false] else z)
        | _, _ => none
      | none => none
    | _, _ => none
  | .lenM m =>
    match ρ m with
    | some (.map none) => some (.int .i64 0)
    | some (.map (some r)) => (q8n h r).map fun es => .int .i64 es.1.size
    | _ => none
  | _ => none
def z6m (ρ : Opd → Option Value) : AOp → Option (Blk × (Nat → Value))
  | .alloc z => some (.own 0 z z.length, fun b => .pointer (some ⟨b, 0, none⟩))
  | .box x => match ρ x with | some v => some (.own 0 v.cells.toList v.cells.size, fun b => .pointer (some ⟨b, 0, none⟩)) | none => none
  | .bslice n size z parts =>
    match allP ρ parts with
    | some ps => match z6n (List.flatten (List.replicate n z)) ps with | some l => some (.own 0 l l.length, fun b => .slice (some ⟨b, 0, none⟩) n n) | none => none
    | none => none
  | .mslice bytes z l c =>
    match ρ l, ρ c with
    | some (.int _ l), some (.int _ c) =>
      if 0 ≤ l ∧ l ≤ c ∧ c ≤ 9223372036854775807 ∧ bytes * c ≤ 281474976710656 then some (.own 0 (List.flatten (List.replicate c.toNat z)) (c.toNat * z.length), fun b => .slice (some ⟨b, 0, none⟩) l.toNat c.toNat) else none
    | _, _ => none
  | .mmap => some (.obj (.map #[] 0), fun b => .map (some b))
  | _ => none
section
variable (P : Program) (ψ : FuncId → Option Nat)
def conO : Operand → Option Opd
  | .tmp t => some (.t t)
  | .const v => some (.c v)
  | .func f => (ψ f).map .f
  | .global _ => none
def conL : List Operand → Option (List Opd)
  | [] => some []
  | x :: xs =>
    match conO ψ x, conL xs with
    | some y, some ys => some (y :: ys)
    | _, _ => none
def qan : Option Operand → Option (Option Opd)
  | none => some none
  | some x => (conO ψ x).map some
def q2i (t : TypeId) : Option Nat := (P.info? t).map (·.size)
def qc1 (t : TypeId) : Option (List Value) := ((P.info? t).bind (·.zero)).map fun z => z.cells.toList
def aggT (t : TypeId) : Option Bool :=
  match P.underlying t with
  | some (.struct _) | some (.array _ _) => some true
  | some _ => some false
  | none => none
def qbc (t : TypeId) : Option (Option Nat) :=
  match aggT P t, q2i P t with
  | some true, some n => some (some n)
  | some false, some _ => some none
  | _, _ => none
def qcz : List Field → Nat → Bool
  | [], _ => true
  | f :: r, o => f.offset == o && (match q2i P f.type with | some n => qcz r (o + n) | none => false)
def q35 : Nat → TypeId → Option (List (Option IntKind))
  | 0, _ => none
  | d + 1, t =>
    match P.underlying t with
    | some (.int k) => some [some k]
    | some .string => some [none]
    | some (.struct fs) =>
      if P.stoodInHeld t || !(qcz P fs.toList 0) then none else
      fs.toList.foldr (fun f acc =>
        match acc, q35 d f.type, q2i P f.type with
        | some r, some l, some n => if f.name != "_" && l.length == n then some (l ++ r) else none
        | _, _, _ => none) (some [])
    | some (.array n e) =>
      match q35 d e, q2i P e with
      | some l, some m => if l.length == m then some (List.flatten (List.replicate n l)) else none
      | _, _ => none
    | _ => none
def keyT (t : TypeId) : Option KeyT :=
  match P.underlying t with
  | some (.int _) => some .int
  | some .string => some .str
  | some (.struct _) | some (.array _ _) => (q35 P 6 t).map .agg
  | _ => none
def q9c (places : Nat → Option (Nat × Nat)) : List (Nat × Operand) → Option (List (Nat × Nat × Opd))
  | [] => some []
  | (i, x) :: r =>
    match places i, conO ψ x, q9c places r with
    | some (o, s), some y, some ys => some ((o, s, y) :: ys)
    | _, _, _ => none
def eqOp (ne : Bool) (t : TypeId) (x y : Opd) : Option AOp :=
  match P.underlying t with
  | some (.int _) | some .string => some (.bin (if ne then .neq else .eql) x y)
  | some .bool => some (.eqv .bool ne x y)
  | some (.pointer e) => (match q2i P e with | some _ => some (.eqv .ptr ne x y) | none => none)
  | some (.slice _) => some (.eqv .slice ne x y)
  | some (.map _ _) => some (.eqv .map ne x y)
  | some (.func ..) => some (.eqv .func ne x y)
  | some (.struct _) | some (.array _ _) => if P.eqGuardType P.depth t then none else (q35 P 6 t).map fun ks => .eqa ks ne x y
  | _ => none
def qkt (s : String) : Option Prim :=
  if s = "math/bits.Add64" then some .add64 else if s = "math/bits.Sub64" then some .sub64 else none
def qe4 (c : Call) : Option AOp :=
  match c.callee with
  | .value (.func f) =>
    match P.funcs[f]? with
    | none => none
    | some fn =>
      if fn.body.isNone then
        match qkt fn.name, conL ψ c.args.toList with
        | some p, some xs => if (Extern.allNextRows.lookup fn.origin).isNone then some (.prim p xs) else none
        | _, _ => none
      else match ψ f, conL ψ c.args.toList with
        | some n, some xs => some (.call n xs)
        | _, _ => none
  | .value x =>
    match conO ψ x, conL ψ c.args.toList with
    | some y, some xs => some (.callv y xs)
    | _, _ => none
  | .invoke _ _ => none
  | .builtin b =>
    match b, conL ψ c.args.toList, c.argTypes.toList with
    | .len, some [x], t :: _ =>
      (match P.underlying t with
      | some .string => some (.lenStr x)
      | some (.array n _) => some (.num n)
      | some (.pointer a) => (match P.underlying a with | some (.array n _) => some (.num n) | _ => none)
      | some (.slice _) => some (.lenS x)
      | some (.map _ _) => some (.lenM x)
      | _ => none)
    | .cap, some [x], t :: _ => (match P.underlying t with | some (.slice _) => some (.capS x) | _ => none)
    | .min, some [x, y], _ => some (.mn x y)
    | .max, some [x, y], _ => some (.mx x y)
    | .append, some [s, x], t :: u :: _ =>
      (match P.underlying t, P.underlying u with
      | some (.slice e), some (.slice _) | some (.slice e), some .string =>
        (match P.info? e, qc1 P e with | some i, some z => if i.size == z.length && 0 < i.size then some (.append i.size i.bytes s x) else none | _, _ => none)
      | some (.slice e), some (.int _) =>
        (match P.info? e, qc1 P e with | some i, some z => if i.size == z.length && 0 < i.size then some (.appendZ i.size i.bytes z s x) else none | _, _ => none)
      | _, _ => none)
    | .copy, some [d, s], t :: _ => (match P.underlying t with | some (.slice e) => (q2i P e).map fun n => .copy n d s | _ => none)
    | .delete, some [m, k], t :: _ => (match P.underlying t with | some (.map k' _) => (keyT P k').map fun kt => .mdel kt m k | _ => none)
    | _, _, _ => none
def q8b (o : Op) : Option AOp :=
  match o with
  | .move x | .assign x => (conO ψ x).map .mv
  | .pick c a b => match conO ψ c, conO ψ a, conO ψ b with | some c, some a, some b => some (.pick c a b) | _, _, _ => none
  | .load t x => match qbc P t, conO ψ x with | some k, some x => some (.load k x) | _, _ => none
  | .nilCheck x => (conO ψ x).map .nilc
  | .binOp op t x y _ =>
    match conO ψ x, conO ψ y with
    | some x, some y => match op with | .eql => eqOp P false t x y | .neq => eqOp P true t x y | _ => some (.bin op x y)
    | _, _ => none
  | .unOp op _ x => (conO ψ x).map (.un op)
  | .convert s d x =>
    match conO ψ x, P.underlying s, P.underlying d with
    | some x, some (.int _), some (.int k) => some (.conv k x)
    | some x, some .string, some .string => some (.strId x)
    | some x, some (.slice e), some .string => (match P.underlying e with | some (.int .u8) => some (.strOf x) | _ => none)
    | some x, some .string, some (.slice e) => (match P.underlying e with | some (.int .u8) => some (.bytesOf x) | _ => none)
    | some x, some (.slice _), some (.slice e) => (match P.underlying e with | some (.int .u8) => (if s == d then some (.mark x) else none) | _ => none)
    | _, _, _ => none
  | .sliceToArrayPointer t x => match conO ψ x, P.underlying t with | some x, some (.array n _) => some (.arrOf n x) | _, _ => none
  | .makeFunc (.func f) a b => match ψ f, conL ψ a.toList, conL ψ b.toList with | some n, some a, some b => some (.fn n a b) | _, _, _ => none
  | .extract x i => (conO ψ x).map (.ext · i)
  | .fieldAddr s x f =>
    match conO ψ x, P.underlying s with
    | some x, some (.struct fs) => (match fs[f]? with | some f => (match q2i P f.type with | some (_ + 1) => some (.faddr f.offset x) | _ => none) | none => none)
    | _, _ => none
  | .field t x f =>
    match conO ψ x, P.underlying t with
    | some x, some (.struct fs) => (match fs[f]? with | some f => (qbc P f.type).map fun k => .field k f.offset x | none => none)
    | _, _ => none
  | .indexAddr t x i =>
    match conO ψ x, conO ψ i, P.underlying t with
    | some x, some i, some (.array n e) => (q2i P e).map fun s => .iaddrA n s x i
    | some x, some i, some (.slice e) => (q2i P e).map fun s => .iaddrS s x i
    | _, _, _ => none
  | .index t x i =>
    match conO ψ x, conO ψ i, P.underlying t with
    | some x, some i, some (.array n e) => (match q2i P e, qbc P e with | some s, some k => some (.idxA n s k x i) | _, _ => none)
    | some x, some i, some .string => some (.idxS x i)
    | _, _, _ => none
  | .slice t x lo hi m =>
    match conO ψ x, qan ψ lo, qan ψ hi, qan ψ m, P.underlying t with
    | some x, some lo, some hi, some none, some .string => some (.slStr x lo hi)
    | some x, some lo, some hi, some m, some (.slice e) => (q2i P e).map fun s => .slSl s x lo hi m
    | some x, some lo, some hi, some m, some (.array n e) => (q2i P e).map fun s => .slArr n s x lo hi m
    | _, _, _, _, _ => none
  | .build t parts =>
    match P.underlying t, qc1 P t with
    | some (.struct fs), some z =>
      (q9c ψ (fun i => match fs[i]? with | some f => (q2i P f.type).map fun s => (f.offset, s) | none => none) parts.toList).map fun ps =>
        if fs.toList.all (fun f => (q2i P f.type).isSome) then .build z ps else .bad
    | some (.array _ e), some z =>
      (match q2i P e with
      | some s => (q9c ψ (fun i => some (i * s, s)) parts.toList).map fun ps => .build z ps
      | none => none)
    | _, _ => none
  | .lookup t m k ok =>
    match conO ψ m, conO ψ k, P.underlying t with
    | some m, some k, some (.map kt e) => (match keyT P kt, (P.info? e).bind (·.zero) with | some kt, some z => some (.lookup kt z ok m k) | _, _ => none)
    | _, _, _ => none
  | .alloc t => (qc1 P t).map .alloc
  | .box _ x => (conO ψ x).map .box
  | .buildSlice t n parts =>
    match P.underlying t with
    | some (.slice e) =>
      (match P.info? e, qc1 P e with
      | some i, some z =>
        if i.size == z.length && 0 < i.size && n * i.size ≤ 16777216 then (q9c ψ (fun j => some (j * i.size, i.size)) parts.toList).map fun ps => .bslice n i.size z ps else none
      | _, _ => none)
    | _ => none
  | .makeSlice t l c =>
    match conO ψ l, conO ψ c, P.underlying t with
    | some l, some c, some (.slice e) =>
      (match P.info? e, qc1 P e with | some i, some z => if i.size == z.length && 0 < i.size then some (.mslice i.bytes z l c) else none | _, _ => none)
    | _, _, _ => none
  | .makeMap t r => match P.underlying t, r with | some (.map _ _), none => some .mmap | _, _ => none
  | .store t a x => match conO ψ a, conO ψ x, q2i P t with | some a, some x, some n => some (.store n a x) | _, _, _ => none
  | .mapUpdate t m k v | .insert t m k v =>
    match conO ψ m, conO ψ k, conO ψ v, P.underlying t with
    | some m, some k, some v, some (.map kt _) => (keyT P kt).map fun kt => .mupd kt m k v
    | _, _, _, _ => none
  | .call c => qe4 P ψ c
  | .range t x => match conO ψ x, P.underlying t with | some x, some (.map _ _) => some (.rangeM x) | _, _ => none
  | .next x q => if q = true then none else (conO ψ x).map .nextM
  | .entry x => (conO ψ x).map .entryM
  | _ => none
end
section
variable {P : Program} {ψ : FuncId → Option Nat} {fid : Nat → Option FuncId} {ρ : Opd → Option Value} {ev : Operand → Value} {h : Heap} {w : World}
def qdn (ψ : FuncId → Option Nat) (ρ : Opd → Option Value) (ev : Operand → Value) : Prop :=
  ∀ x y v, conO ψ x = some y → ρ y = some v → ev x = v
theorem q1y {t : TypeId} {i : TypeInfo} (h : P.info? t = some i) (w : World) : (typeInfo t).run P w = .ok i w := by
  simp [typeInfo, h]
theorem q0p {t : TypeId} {n : Nat} (h : q2i P t = some n) (w : World) : (sizeOf t).run P w = .ok n w := by
  unfold q2i at h
  cases e : P.info? t with
  | none => simp [e] at h
  | some i => simp [e] at h; simp [sizeOf, q1y e, h]
theorem qav {t : TypeId} {b : Bool} (h : aggT P t = some b) (w : World) : (isAgg t).run P w = .ok b w := by
  unfold aggT at h
  cases e : P.underlying t with
  | none => simp [e] at h
  | some d =>
    simp only [isAgg, Sem.run_bind, run_underlying e, Result.andThen_ok]
    cases d <;> simp_all
theorem qge {t : TypeId} {k : Option Nat} (h : qbc P t = some k) :
    (k = none ∧ aggT P t = some false) ∨ (∃ n, k = some n ∧ aggT P t = some true ∧ q2i P t = some n) := by
  unfold qbc at h
  split at h
  · rename_i n h1 h2; simp only [Option.some.injEq] at h; subst h; exact .inr ⟨_, rfl, h1, h2⟩
  · rename_i h1 h2; simp only [Option.some.injEq] at h; subst h; exact .inl ⟨rfl, h1⟩
  · cases h
theorem qkp {a : Addr} {v : Value} (hs : Sat h w) (e : q1r h a = some v) : (load a).run P w = .ok v w := by
  simp [qa7 hs e]
theorem qds {t : TypeId} {k : Option Nat} {a : Addr} {v : Value} (hs : Sat h w) (hk : qbc P t = some k)
    (hv : z6q h a k = some v) : (loadVar t a).run P w = .ok v w := by
  rcases qge hk with ⟨rfl, ha⟩ | ⟨n, rfl, ha, hn⟩
  · simp only [loadVar, Sem.run_bind, qav ha, Result.andThen_ok]
    simp only [z6q] at hv
    exact qkp hs hv
  · simp only [loadVar, Sem.run_bind, qav ha, Result.andThen_ok, if_true]
    simp only [z6q, Option.map_eq_some_iff] at hv
    obtain ⟨l, hl, rfl⟩ := hv
    simp [q0p hn, q7e hs hl]
theorem q81 {t : TypeId} {k : Option Nat} {cs : Array Value} {off : Nat} {v : Value} (hk : qbc P t = some k)
    (hv : z6r cs.toList off k = some v) : (part t cs off).run P w = .ok v w := by
  rcases qge hk with ⟨rfl, ha⟩ | ⟨n, rfl, ha, hn⟩
  · simp only [part, Sem.run_bind, qav ha, Result.andThen_ok]
    have : cs[off]? = some v := by simpa [z6r] using hv
    simp [this]
  · simp only [part, Sem.run_bind, qav ha, Result.andThen_ok, if_true]
    simp only [z6r, Option.some.injEq] at hv
    subst hv
    simp only [Sem.run_bind, q0p hn, Result.andThen_ok, Sem.run_pure]
    congr 2
    apply Array.ext'
    simp [List.take_drop, Nat.add_comm]
theorem qk3 {op : BinOp} {t : TypeId} {x y : Operand} {a b v : Value} (he : op ≠ .eql) (hn : op ≠ .neq) (hv : binV op a b = some v) :
    (eqGuard op t x y a b >>= fun _ => binOp op t a b).run P w = .ok v w := by
  have hg : (eqGuard op t x y a b).run P w = .ok () w := by
    unfold eqGuard; cases op <;> simp_all
  simp only [Sem.run_bind, hg, Result.andThen_ok]
  unfold binV at hv
  split at hv
  · split at hv
    · cases hv
    · rename_i hb
      simp only [Option.some.injEq] at hv; subst hv
      simp [binOp, Op.shift, hb]
  · split at hv
    · cases hv
    · rename_i hb
      simp only [Option.some.injEq] at hv; subst hv
      simp [binOp, Op.shift, hb]
  all_goals first
    | (exact absurd rfl he)
    | (exact absurd rfl hn)
    | (split at hv
       · first
         | (simp only [Option.some.injEq] at hv
            subst hv
            rename_i hk
            subst hk
            simp [binOp, Op.intArith, Op.intBits, Op.intCmp]
            done)
         | (split at hv
            · cases hv
            · rename_i hk hb
              subst hk
              simp only [Option.some.injEq] at hv
              subst hv
              simp [binOp, Op.intDiv, hb])
         | (rename_i hle
            simp only [Option.some.injEq] at hv
            subst hv
            simp [binOp, Op.stringOp, IntKind.max, IntKind.signed, IntKind.bits]
            omega)
       · cases hv)
    | (simp only [Option.some.injEq] at hv
       subst hv
       simp [binOp, Op.stringOp]
       done)
    | (cases hv)
theorem qgc {D : Nat} {t : TypeId} {k : Option IntKind} {a b : Value} (ht : (match k with | some k => P.underlying t = some (.int k) | none => P.underlying t = some .string)) (h1 : q8p k a = true) (h2 : q8p k b = true) :
    (Op.equalIn (D + 1) t a b).run P w = .ok (qcb a b) w := by
  cases k with
  | some k =>
    cases a <;> simp [q8p] at h1
    cases b <;> simp [q8p] at h2
    subst h1; subst h2
    exact run_equalIn_int (P := P) w D t _ _ _ _ ht
  | none =>
    cases a <;> simp [q8p] at h1
    cases b <;> simp [q8p] at h2
    exact run_equalIn_string (P := P) w D t _ _ ht
end
theorem q0j : ∀ {ks : List (Option IntKind)} {vs : List Value}, q05 ks vs = true → vs.length = ks.length
  | [], [], _ => rfl
  | [], _ :: _, h => by simp [q05] at h
  | _ :: _, [], h => by simp [q05] at h
  | k :: ks, v :: vs, h => by simp [q05] at h; simp [q0j h.2]
theorem q4v : ∀ (k1 k2 : List (Option IntKind)) (vs : List Value), q05 (k1 ++ k2) vs = true ↔ q05 k1 (vs.take k1.length) = true ∧ q05 k2 (vs.drop k1.length) = true
  | [], k2, vs => by simp [q05]
  | k :: k1, k2, [] => by simp [q05]
  | k :: k1, k2, v :: vs => by simp [q05, q4v k1 k2 vs, and_assoc]
theorem q8o : ∀ (n : Nat) (a b : List Value), a.length = b.length → q0k a b = (q0k (a.take n) (b.take n) && q0k (a.drop n) (b.drop n))
  | 0, a, b, _ => by simp [q0k]
  | n + 1, [], [], _ => by simp [q0k]
  | n + 1, x :: a, y :: b, h => by
    simp only [List.length_cons, Nat.add_right_cancel_iff] at h
    simp only [q0k, List.take_succ_cons, List.drop_succ_cons, q8o n a b h, Bool.and_assoc]
section
variable {P : Program}
def EqOk (P : Program) (d : Nat) : Prop := ∀ (t : TypeId) (ks : List (Option IntKind)), q35 P d t = some ks → ∀ (D : Nat), d ≤ D → ∀ (w : World),
  (aggT P t = some true → ∀ xs ys : Array Value, q05 ks xs.toList = true → q05 ks ys.toList = true → (Op.equalIn D t (.agg xs) (.agg ys)).run P w = .ok (q0k xs.toList ys.toList) w) ∧
  (aggT P t = some false → ∃ k, ks = [k] ∧ ∀ a b, q8p k a = true → q8p k b = true → (Op.equalIn D t a b).run P w = .ok (qcb a b) w)
theorem qll {d : Nat} (IH : EqOk P d) {t : TypeId} {ks : List (Option IntKind)} (hl : q35 P d t = some ks) (hz : q2i P t = some ks.length) {D : Nat} (hD : d ≤ D) (xs ys : Array Value) (off : Nat)
    (hx : q05 ks ((xs.toList.drop off).take ks.length) = true) (hy : q05 ks ((ys.toList.drop off).take ks.length) = true) (w : World) :
    ∃ a b, (part t xs off).run P w = .ok a w ∧ (part t ys off).run P w = .ok b w ∧ (Op.equalIn D t a b).run P w = .ok (q0k ((xs.toList.drop off).take ks.length) ((ys.toList.drop off).take ks.length)) w := by
  have hagg : ∃ q, aggT P t = some q := by
    unfold aggT
    unfold q35 at hl
    cases d with
    | zero => simp at hl
    | succ d =>
      simp only at hl
      cases e : P.underlying t with
      | none => simp [e] at hl
      | some ty => cases ty <;> simp
  obtain ⟨q, hq⟩ := hagg
  cases q with
  | true =>
    have hk : qbc P t = some (some ks.length) := by simp [qbc, hq, hz]
    refine ⟨_, _, q81 hk rfl, q81 hk rfl, ?_⟩
    have := (IH t ks hl D hD w).1 hq ((xs.toList.drop off).take ks.length).toArray ((ys.toList.drop off).take ks.length).toArray (by simpa using hx) (by simpa using hy)
    simpa using this
  | false =>
    have hk : qbc P t = some none := by simp [qbc, hq, hz]
    obtain ⟨k, rfl, hr⟩ := (IH t ks hl D hD w).2 hq
    have get : ∀ zs : Array Value, q05 [k] ((zs.toList.drop off).take [k].length) = true → ∃ a, zs.toList[off]? = some a ∧ (zs.toList.drop off).take [k].length = [a] ∧ q8p k a = true := by
      intro zs hz
      cases e : zs.toList.drop off with
      | nil => simp [e, q05] at hz
      | cons a r =>
        simp [e, q05] at hz
        refine ⟨a, ?_, by simp, hz⟩
        have := congrArg (·[0]?) e
        simpa [List.getElem?_drop] using this
    obtain ⟨a, ha1, ha2, ha3⟩ := get xs hx
    obtain ⟨b, hb1, hb2, hb3⟩ := get ys hy
    refine ⟨a, b, q81 hk ha1, q81 hk hb1, ?_⟩
    rw [ha2, hb2, hr a b ha3 hb3]
    simp [q0k]
theorem qi6 {d : Nat} (IH : EqOk P d) {D : Nat} (hD : d ≤ D) (xs ys : Array Value) (w : World) : ∀ (fs : List Field) (o : Nat) (ks : List (Option IntKind)),
    fs.foldr (fun f acc => match acc, q35 P d f.type, q2i P f.type with | some r, some l, some n => if f.name != "_" && l.length == n then some (l ++ r) else none | _, _, _ => none) (some []) = some ks →
    qcz P fs o = true → q05 ks (xs.toList.drop o) = true → q05 ks (ys.toList.drop o) = true →
    (Op.eqFields D xs ys fs).run P w = .ok (q0k (xs.toList.drop o) (ys.toList.drop o)) w
  | [], o, ks, hk, _, hx, hy => by
    simp at hk; subst hk
    have h1 : xs.toList.drop o = [] := List.eq_nil_of_length_eq_zero (by simpa using q0j hx)
    have h2 : ys.toList.drop o = [] := List.eq_nil_of_length_eq_zero (by simpa using q0j hy)
    rw [h1, h2]
    simp [Op.eqFields, q0k]
  | f :: fs, o, ks, hk, hp, hx, hy => by
    simp only [List.foldr_cons] at hk
    split at hk
    · rename_i r l n hr hl hn
      split at hk
      · rename_i hc
        simp only [Option.some.injEq] at hk
        simp only [Bool.and_eq_true, bne_iff_ne, beq_iff_eq] at hc
        obtain ⟨hname, hlen⟩ := hc
        subst hk
        simp only [qcz, hn, Bool.and_eq_true, beq_iff_eq] at hp
        obtain ⟨ho, hp⟩ := hp
        rw [q4v] at hx hy
        obtain ⟨a, b, p1, p2, p3⟩ := qll IH hl (by rw [hn, hlen]) hD xs ys o hx.1 hy.1 w
        have hrest := qi6 IH hD xs ys w fs (o + n) r hr hp (by rw [← hlen]; simpa [Nat.add_comm] using hx.2) (by rw [← hlen]; simpa [Nat.add_comm] using hy.2)
        simp only [Op.eqFields, Sem.run_ite, Sem.run_bind, ho, p1, p2, p3, Result.andThen_ok]
        rw [if_pos hname]
        have hsplit := q8o l.length (xs.toList.drop o) (ys.toList.drop o) (by
          have h1 := q0j hx.2; have h2 := q0j hy.2
          have h3 := q0j hx.1; have h4 := q0j hy.1
          simp at h1 h2 h3 h4 ⊢; omega)
        rw [hsplit]
        cases q0k ((xs.toList.drop o).take l.length) ((ys.toList.drop o).take l.length)
        · simp
        · simp only [Bool.not_true, Bool.false_eq_true, if_false, Bool.true_and, hrest]
          rw [← hlen]; simp [Nat.add_comm]
      · cases hk
    · cases hk
theorem qjf {d : Nat} (IH : EqOk P d) {e : TypeId} {l : List (Option IntKind)} (hl : q35 P d e = some l) (hz : q2i P e = some l.length) {D : Nat} (hD : d ≤ D) (xs ys : Array Value) (w : World) : ∀ (n j : Nat),
    q05 (List.flatten (List.replicate n l)) (xs.toList.drop (j * l.length)) = true → q05 (List.flatten (List.replicate n l)) (ys.toList.drop (j * l.length)) = true →
    (Op.eqItems D e l.length xs ys (List.range' j n)).run P w = .ok (q0k (xs.toList.drop (j * l.length)) (ys.toList.drop (j * l.length))) w
  | 0, j, hx, hy => by
    have h1 : xs.toList.drop (j * l.length) = [] := List.eq_nil_of_length_eq_zero (by simpa using q0j hx)
    have h2 : ys.toList.drop (j * l.length) = [] := List.eq_nil_of_length_eq_zero (by simpa using q0j hy)
    rw [h1, h2]
    simp [Op.eqItems, q0k]
  | n + 1, j, hx, hy => by
    simp only [List.replicate_succ, List.flatten_cons] at hx hy
    rw [q4v] at hx hy
    obtain ⟨a, b, p1, p2, p3⟩ := qll IH hl hz hD xs ys (j * l.length) hx.1 hy.1 w
    have hrest := qjf IH hl hz hD xs ys w n (j + 1) (by rw [Nat.add_mul, Nat.one_mul, ← List.drop_drop]; exact hx.2) (by rw [Nat.add_mul, Nat.one_mul, ← List.drop_drop]; exact hy.2)
    simp only [List.range'_succ, Op.eqItems, Sem.run_bind, p1, p2, p3, Result.andThen_ok, Sem.run_ite]
    have hsplit := q8o l.length (xs.toList.drop (j * l.length)) (ys.toList.drop (j * l.length)) (by
      have h1 := q0j hx.2; have h2 := q0j hy.2
      have h3 := q0j hx.1; have h4 := q0j hy.1
      simp at h1 h2 h3 h4 ⊢; omega)
    rw [hsplit]
    cases q0k ((xs.toList.drop (j * l.length)).take l.length) ((ys.toList.drop (j * l.length)).take l.length)
    · simp
    · simp only [Bool.not_true, Bool.false_eq_true, if_false, Bool.true_and, hrest]
      rw [Nat.add_mul, Nat.one_mul]; simp [List.drop_drop, Nat.add_comm]
theorem eqOk : ∀ d, EqOk P d
  | 0 => fun t ks h => by simp [q35] at h
  | d + 1 => by
    intro t ks h D hD w
    obtain ⟨D, rfl⟩ : ∃ m, D = m + 1 := ⟨D - 1, by omega⟩
    have IH := eqOk d
    unfold q35 at h
    cases e : P.underlying t with
    | none => simp [e] at h
    | some ty =>
      simp only [e] at h
      cases ty with
      | int k =>
        simp only [Option.some.injEq] at h; subst h
        exact ⟨fun ha => by simp [aggT, e] at ha, fun _ => ⟨some k, rfl, fun a b h1 h2 => qgc (k := some k) e h1 h2⟩⟩
      | string =>
        simp only [Option.some.injEq] at h; subst h
        exact ⟨fun ha => by simp [aggT, e] at ha, fun _ => ⟨none, rfl, fun a b h1 h2 => qgc (k := none) e h1 h2⟩⟩
      | struct fs =>
        refine ⟨fun _ xs ys hx hy => ?_, fun ha => by simp [aggT, e] at ha⟩
        simp only at h
        split at h
        · cases h
        · rename_i hc
          simp only [Bool.or_eq_true, Bool.not_eq_true', not_or, Bool.not_eq_true, Bool.not_eq_false] at hc
          have hf : P.fieldsOf t = fs := by simp [Program.fieldsOf, e]
          rw [run_equalIn_struct w D t xs ys (by rw [hf]; exact e) hc.1, hf]
          have := qi6 IH (D := D) (by omega) xs ys w fs.toList 0 ks h hc.2 (by simpa using hx) (by simpa using hy)
          simpa using this
      | array n el =>
        refine ⟨fun _ xs ys hx hy => ?_, fun ha => by simp [aggT, e] at ha⟩
        simp only at h
        split at h
        · rename_i l m hl hm
          split at h
          · rename_i hlm
            simp only [Option.some.injEq] at h; subst h
            have hlm' : l.length = m := by simpa using hlm
            subst hlm'
            obtain ⟨i, hi, hisz⟩ : ∃ i, P.info? el = some i ∧ i.size = l.length := by
              unfold q2i at hm
              cases e2 : P.info? el with
              | none => simp [e2] at hm
              | some i => exact ⟨i, rfl, by simpa [e2] using hm⟩
            rw [run_equalIn_array w D xs ys e hi]
            have hc : P.cellsOf el = l.length := by simp [Program.cellsOf, hi, hisz]
            rw [hc]
            have := qjf IH hl hm (D := D) (by omega) xs ys w n 0 (by simpa using hx) (by simpa using hy)
            simpa [List.range_eq_range'] using this
          · cases h
        · cases h
      | _ => simp at h
end
section
variable {P : Program} {ψ : FuncId → Option Nat} {fid : Nat → Option FuncId} {ρ : Opd → Option Value} {ev : Operand → Value} {h : Heap} {w : World}
theorem qdg (ha : qdn ψ ρ ev) : ∀ {xs : List Operand} {ys : List Opd} {vs : List Value}, conL ψ xs = some ys → allV ρ ys = some vs → xs.map ev = vs
  | [], ys, vs, h1, h2 => by simp [conL] at h1; subst h1; simp [allV] at h2; subst h2; rfl
  | x :: xs, ys, vs, h1, h2 => by
    simp only [conL] at h1
    split at h1
    · rename_i y ys' hy hys
      simp only [Option.some.injEq] at h1; subst h1
      simp only [allV] at h2
      split at h2
      · rename_i v vs' hv hvs
        simp only [Option.some.injEq] at h2; subst h2
        simp [ha x y v hy hv, qdg ha hys hvs]
      · cases h2
    · cases h1
theorem qa4 (ha : qdn ψ ρ ev) {places : Nat → Option (Nat × Nat)} : ∀ {xs : List (Nat × Operand)} {ys : List (Nat × Nat × Opd)} {vs : List (Nat × Nat × Value)}, q9c ψ places xs = some ys → allP ρ ys = some vs →
    ∀ {cells : List Value} {l : List Value}, z6n cells vs = some l → Instr.fill places cells.toArray (xs.map fun (i, x) => (i, ev x)) = some l.toArray
  | [], ys, vs, h1, h2, cells, l, h3 => by simp [q9c] at h1; subst h1; simp [allP] at h2; subst h2; simp [z6n] at h3; subst h3; simp [Instr.fill]
  | (i, x) :: xs, ys, vs, h1, h2, cells, l, h3 => by
    simp only [q9c] at h1
    split at h1
    · rename_i o s y ys' hp hy hys
      simp only [Option.some.injEq] at h1; subst h1
      simp only [allP] at h2
      split at h2
      · rename_i v vs' hv hvs
        simp only [Option.some.injEq] at h2; subst h2
        simp only [z6n] at h3
        split at h3
        · rename_i hc
          obtain ⟨hsz, hle⟩ := hc
          have he := ha x y v hy hv
          simp only [List.map_cons, Instr.fill, hp, he]
          have hcond : (v.cells.size != s || decide (o + v.cells.size > cells.toArray.size)) = false := by
            simp [hsz]; omega
          have := qa4 ha hys hvs h3
          have hfold : (v.cells.zipIdx.foldl (fun cs (c, j) => cs.setIfInBounds (o + j) c) cells.toArray) = (cells.take o ++ v.cells.toList ++ cells.drop (o + s)).toArray := by
            rw [← hsz] at hle ⊢
            clear hcond this h3 he hv hy hp
            generalize v.cells = arr at *
            obtain ⟨l0⟩ := arr
            simp only [List.size_toArray] at hle
            rw [← Array.foldl_toList, Array.toList_zipIdx]
            simp only [List.size_toArray]
            have key : ∀ (m : List Value) (k : Nat) (cs : List Value), o + k + m.length ≤ cs.length →
                List.foldl (fun (cs : Array Value) (x : Value × Nat) => cs.setIfInBounds (o + x.2) x.1) cs.toArray (m.zipIdx k) = (cs.take (o + k) ++ m ++ cs.drop (o + k + m.length)).toArray := by
              intro m
              induction m with
              | nil => intro k cs hle; simp
              | cons a m ih =>
                intro k cs hle
                simp only [List.length_cons] at hle
                simp only [List.zipIdx_cons, List.foldl_cons, List.setIfInBounds_toArray]
                rw [ih (k + 1) _ (by simp; omega)]
                congr 1
                apply List.ext_getElem?
                intro q
                simp only [List.getElem?_append, List.length_append, List.length_take, List.length_set, List.length_cons, List.getElem?_take, List.getElem?_drop, List.getElem?_set]
                grind
            have := key l0 0 cells (by simpa using hle)
            simpa using this
          rw [if_neg (by simpa using hcond)]
          rw [hfold]
          exact this
        · cases h3
      · cases h2
    · cases h1
theorem qgg (f : Value → ByteArray → Sem (ForInStep ByteArray)) (hf : ∀ n s, f (.int .u8 n) s = pure (.yield (s.push (UInt8.ofNat n.toNat)))) : ∀ (l : List Value) (bs : List UInt8) (s : ByteArray), qbk l = some bs →
    (forIn l s f).run P w = .ok ⟨s.data ++ bs.toArray⟩ w
  | [], bs, s, e => by simp [qbk] at e; subst e; simp
  | v :: l, bs, s, e => by
    unfold qbk at e
    split at e
    · simp_all
    · rename_i n r hvl
      simp only [List.cons.injEq] at hvl
      obtain ⟨rfl, rfl⟩ := hvl
      simp only [Option.map_eq_some_iff] at e
      obtain ⟨bs', hb, rfl⟩ := e
      simp only [List.forIn_cons, Sem.run_bind, hf, Sem.run_pure, Result.andThen_ok]
      rw [qgg f hf _ bs' _ hb]
      simp [ByteArray.push]
    · cases e
theorem bts (l : List Value) (bs : List UInt8) (a : Addr) (n c : Nat) (hs : Sat h w) (hl : q09 h a n = some l) (e : qbk l = some bs) :
    (Conv.bytesToString (.slice (some a) n c)).run P w = .ok (.string ⟨bs.toArray⟩) w := by
  unfold Conv.bytesToString
  simp only [Sem.run_bind, q7e hs hl, Result.andThen_ok, List.forIn_toArray]
  rw [qgg _ (fun n s => rfl) l bs _ e]
  have he : ByteArray.empty.data = #[] := rfl
  simp [he]
theorem qam (ha : qdn ψ ρ ev) {o : Option Operand} {y : Option Opd} (h1 : qan ψ o = some y) :
    (o = none ∧ y = none) ∨ (∃ x z, o = some x ∧ y = some z ∧ ∀ v, ρ z = some v → ev x = v) := by
  cases o with
  | none => simp [qan] at h1; exact .inl ⟨rfl, h1.symm⟩
  | some x =>
    simp only [qan, Option.map_eq_some_iff] at h1
    obtain ⟨z, hz, rfl⟩ := h1
    exact .inr ⟨x, z, rfl, rfl, fun v hv => ha x z v hz hv⟩
theorem qfz {i : Int} {k : IntKind} {y n : Nat} {code : BoundsCode} (h : (if 0 ≤ i ∧ i ≤ y then some i.toNat else none) = some n) :
    (Instr.sliceBound (.int k i) y code).run P w = .ok n w := by
  split at h
  · rename_i hc
    simp only [Option.some.injEq] at h
    simp [Instr.sliceBound, asIntOf, hc, h]
  · cases h
theorem qen (ha : qdn ψ ρ ev) {o : Option Operand} {y : Option Opd} (h1 : qan ψ o = some y) {d most n : Nat} (h2 : bndV d most (oOpt ρ y) = some n) (code : BoundsCode) :
    (match o.map ev with | some v => Instr.sliceBound v most code | none => pure d).run P w = .ok n w := by
  rcases qam ha h1 with ⟨rfl, rfl⟩ | ⟨x, z, rfl, rfl, hv⟩
  · simp [oOpt, bndV] at h2; subst h2; rfl
  · simp only [oOpt] at h2
    cases e : ρ z with
    | none => rw [e] at h2; simp [bndV] at h2
    | some v =>
      rw [e] at h2
      cases v <;> simp only [bndV] at h2 <;> try (cases h2)
      rename_i k i
      simp only [Option.map_some, hv _ e]
      exact qfz h2
theorem qh8 (ha : qdn ψ ρ ev) {lo hi m : Option Operand} {lo' hi' m' : Option Opd} (h1 : qan ψ lo = some lo') (h2 : qan ψ hi = some hi') (h3 : qan ψ m = some m') {len cap : Nat} {r : Nat × Nat × Nat}
    (hb : bnds len cap (oOpt ρ lo') (oOpt ρ hi') (oOpt ρ m') = some r) (isS : Bool) : (Instr.sliceBounds isS len cap (lo.map ev) (hi.map ev) (m.map ev)).run P w = .ok r w := by
  unfold bnds at hb
  split at hb
  · cases hb
  · rename_i mm hm
    split at hb
    · cases hb
    · rename_i hh hhi
      split at hb
      · cases hb
      · rename_i ll hlo
        simp only [Option.some.injEq] at hb
        subst hb
        have em := qen (P := P) (w := w) ha h3 hm (if isS then .slice3Acap else .slice3Alen)
        have hm3 : (oOpt ρ m').isSome = m.isSome := by
          rcases qam ha h3 with ⟨rfl, rfl⟩ | ⟨x, z, rfl, rfl, _⟩ <;> rfl
        have hh3 : (oOpt ρ hi').isNone = hi.isNone := by
          rcases qam ha h2 with ⟨rfl, rfl⟩ | ⟨x, z, rfl, rfl, _⟩ <;> rfl
        rw [hm3, hh3] at hhi
        have el := fun code => qen (P := P) (w := w) ha h1 hlo code
        cases m with
        | none =>
          simp only [Option.isSome_none, Bool.false_and, Bool.false_eq_true, if_false] at hhi
          have eh := qen (P := P) (w := w) ha h2 hhi (if isS then .sliceAcap else .sliceAlen)
          cases hi <;> cases lo <;> simp_all [Instr.sliceBounds]
        | some x =>
          cases hi with
          | none => simp at hhi
          | some y =>
            simp only [Option.isNone_some, Bool.and_false, Bool.false_eq_true, if_false] at hhi
            have eh := qen (P := P) (w := w) ha h2 hhi .slice3B
            cases lo <;> simp_all [Instr.sliceBounds]
end
section
variable {P : Program} {ψ : FuncId → Option Nat} {fid : Nat → Option FuncId} {ρ : Opd → Option Value} {ev : Operand → Value} {h : Heap} {w : World}
def CkOk (P : Program) (d : Nat) : Prop := ∀ (t : TypeId) (ks : List (Option IntKind)), q35 P d t = some ks → ∀ (D : Nat), d ≤ D → ∀ (em : Bool) (w : World),
  (aggT P t = some true → ∀ xs : Array Value, q05 ks xs.toList = true → (Instr.checkKey em D t (.agg xs)).run P w = .ok () w) ∧
  (aggT P t = some false → ∀ a, (Instr.checkKey em D t a).run P w = .ok () w)
theorem qlv {d : Nat} (IH : CkOk P d) {t : TypeId} {ks : List (Option IntKind)} (hl : q35 P d t = some ks) (hz : q2i P t = some ks.length) {D : Nat} (hD : d ≤ D) (xs : Array Value) (off : Nat)
    (hx : q05 ks ((xs.toList.drop off).take ks.length) = true) (em : Bool) (w : World) :
    ∃ a, (part t xs off).run P w = .ok a w ∧ (Instr.checkKey em D t a).run P w = .ok () w := by
  have hagg : ∃ q, aggT P t = some q := by
    unfold aggT
    unfold q35 at hl
    cases d with
    | zero => simp at hl
    | succ d =>
      simp only at hl
      cases e : P.underlying t with
      | none => simp [e] at hl
      | some ty => cases ty <;> simp
  obtain ⟨q, hq⟩ := hagg
  cases q with
  | true =>
    have hk : qbc P t = some (some ks.length) := by simp [qbc, hq, hz]
    exact ⟨_, q81 hk rfl, (IH t ks hl D hD em w).1 hq ((xs.toList.drop off).take ks.length).toArray (by simpa using hx)⟩
  | false =>
    have hk : qbc P t = some none := by simp [qbc, hq, hz]
    obtain ⟨k, rfl, _⟩ := (eqOk d t ks hl D hD w).2 hq
    have : ∃ a, xs.toList[off]? = some a := by
      cases e : xs.toList.drop off with
      | nil => simp [e, q05] at hx
      | cons a r => exact ⟨a, by have := congrArg (·[0]?) e; simpa [List.getElem?_drop] using this⟩
    obtain ⟨a, ha⟩ := this
    exact ⟨a, q81 hk ha, (IH t _ hl D hD em w).2 hq a⟩
def q9d (em : Bool) (d : Nat) (xs : Array Value) : List Field → Sem Unit
  | [] => pure ()
  | f :: fs => if f.name ≠ "_" then do
      let a ← part f.type xs f.offset
      Instr.checkKey em d f.type a
      q9d em d xs fs
    else q9d em d xs fs
theorem qbn (em : Bool) (d : Nat) (t : TypeId) (xs : Array Value) {fs : Array Field} (ht : P.underlying t = some (.struct fs)) :
    (Instr.checkKey em (d + 1) t (.agg xs)).run P w = (q9d em d xs fs.toList).run P w := by
  simp only [Instr.checkKey, Sem.run_bind, run_underlying ht, Result.andThen_ok]
  rw [← Array.forIn_toList]
  generalize fs.toList = l
  clear ht
  induction l generalizing w with
  | nil => simp [q9d]
  | cons f l ih =>
    simp only [List.forIn_cons, q9d, Sem.run_bind, Sem.run_ite]
    split
    · generalize (part f.type xs f.offset).run P w = r1
      cases r1 with
      | ok a w1 =>
        simp only [Result.andThen_ok]
        generalize (Instr.checkKey em d f.type a).run P w1 = r2
        cases r2 with
        | ok b w2 => simp only [Result.andThen_ok, Sem.run_pure]; have := ih (w := w2); simpa using this
        | halt x w2 => simp
      | halt x w1 => simp
    · simp only [Sem.run_pure, Result.andThen_ok]; have := ih (w := w); simpa using this
def qby (em : Bool) (d : Nat) (e : TypeId) (c : Nat) (xs : Array Value) : List Nat → Sem Unit
  | [] => pure ()
  | i :: is => do
      let a ← part e xs (i * c)
      Instr.checkKey em d e a
      qby em d e c xs is
theorem qc7 (em : Bool) (d : Nat) (t e : TypeId) (n c : Nat) (xs : Array Value) (ht : P.underlying t = some (.array n e)) (hz : q2i P e = some c) :
    (Instr.checkKey em (d + 1) t (.agg xs)).run P w = (qby em d e c xs (List.range' 0 n)).run P w := by
  simp only [Instr.checkKey, Sem.run_bind, run_underlying ht, Result.andThen_ok]
  simp only [Std.Legacy.Range.forIn_eq_forIn_range', Std.Legacy.Range.size, Nat.sub_zero, Nat.add_one_sub_one, Nat.div_one]
  generalize List.range' 0 n = is
  induction is generalizing w with
  | nil => simp [qby]
  | cons j is ih =>
    simp only [List.forIn_cons, qby, Sem.run_bind, q0p hz, Result.andThen_ok]
    generalize (part e xs (j * c)).run P w = r1
    cases r1 with
    | ok a w1 =>
      simp only [Result.andThen_ok]
      generalize (Instr.checkKey em d e a).run P w1 = r2
      cases r2 with
      | ok b w2 => simp only [Result.andThen_ok, Sem.run_pure]; have := ih (w := w2); simpa using this
      | halt x w2 => simp
    | halt x w1 => simp
theorem qi9 {d : Nat} (IH : CkOk P d) {D : Nat} (hD : d ≤ D) (xs : Array Value) (em : Bool) (w : World) : ∀ (fs : List Field) (o : Nat) (ks : List (Option IntKind)),
    fs.foldr (fun f acc => match acc, q35 P d f.type, q2i P f.type with | some r, some l, some n => if f.name != "_" && l.length == n then some (l ++ r) else none | _, _, _ => none) (some []) = some ks →
    qcz P fs o = true → q05 ks (xs.toList.drop o) = true → (q9d em D xs fs).run P w = .ok () w
  | [], o, ks, hk, _, hx => by simp [q9d]
  | f :: fs, o, ks, hk, hp, hx => by
    simp only [List.foldr_cons] at hk
    split at hk
    · rename_i r l n hr hl hn
      split at hk
      · rename_i hc
        simp only [Option.some.injEq] at hk
        simp only [Bool.and_eq_true, bne_iff_ne, beq_iff_eq] at hc
        obtain ⟨hname, hlen⟩ := hc
        subst hk
        simp only [qcz, hn, Bool.and_eq_true, beq_iff_eq] at hp
        obtain ⟨ho, hp⟩ := hp
        rw [q4v] at hx
        obtain ⟨a, p1, p2⟩ := qlv IH hl (by rw [hn, hlen]) hD xs o hx.1 em w
        have hrest := qi9 IH hD xs em w fs (o + n) r hr hp (by rw [← hlen]; simpa [Nat.add_comm] using hx.2)
        simp only [q9d, Sem.run_ite, Sem.run_bind, ho, p1, p2, Result.andThen_ok]
        rw [if_pos hname]; exact hrest
      · cases hk
    · cases hk
theorem qjh {d : Nat} (IH : CkOk P d) {e : TypeId} {l : List (Option IntKind)} (hl : q35 P d e = some l) (hz : q2i P e = some l.length) {D : Nat} (hD : d ≤ D) (xs : Array Value) (em : Bool) (w : World) : ∀ (n j : Nat),
    q05 (List.flatten (List.replicate n l)) (xs.toList.drop (j * l.length)) = true → (qby em D e l.length xs (List.range' j n)).run P w = .ok () w
  | 0, j, hx => by simp [qby]
  | n + 1, j, hx => by
    simp only [List.replicate_succ, List.flatten_cons] at hx
    rw [q4v] at hx
    obtain ⟨a, p1, p2⟩ := qlv IH hl hz hD xs (j * l.length) hx.1 em w
    have hrest := qjh IH hl hz hD xs em w n (j + 1) (by rw [Nat.add_mul, Nat.one_mul, ← List.drop_drop]; exact hx.2)
    simp only [List.range'_succ, qby, Sem.run_bind, p1, p2, Result.andThen_ok, hrest]
theorem ckOk : ∀ d, CkOk P d
  | 0 => fun t ks h => by simp [q35] at h
  | d + 1 => by
    intro t ks h D hD em w
    obtain ⟨D, rfl⟩ : ∃ m, D = m + 1 := ⟨D - 1, by omega⟩
    have IH := ckOk d
    unfold q35 at h
    cases e : P.underlying t with
    | none => simp [e] at h
    | some ty =>
      simp only [e] at h
      cases ty with
      | int k => exact ⟨fun ha => by simp [aggT, e] at ha, fun _ a => by simp [Instr.checkKey, run_underlying e]⟩
      | string => exact ⟨fun ha => by simp [aggT, e] at ha, fun _ a => by simp [Instr.checkKey, run_underlying e]⟩
      | struct fs =>
        refine ⟨fun _ xs hx => ?_, fun ha => by simp [aggT, e] at ha⟩
        simp only at h
        split at h
        · cases h
        · rename_i hc
          simp only [Bool.or_eq_true, Bool.not_eq_true', not_or, Bool.not_eq_true, Bool.not_eq_false] at hc
          rw [qbn em D t xs e]
          exact qi9 IH (D := D) (by omega) xs em w fs.toList 0 ks h hc.2 (by simpa using hx)
      | array n el =>
        refine ⟨fun _ xs hx => ?_, fun ha => by simp [aggT, e] at ha⟩
        simp only at h
        split at h
        · rename_i l m hl hm
          split at h
          · rename_i hlm
            simp only [Option.some.injEq] at h; subst h
            have hlm' : l.length = m := by simpa using hlm
            subst hlm'
            rw [qc7 em D t el n l.length xs e hm]
            exact qjh IH hl hm (D := D) (by omega) xs em w n 0 (by simpa using hx)
          · cases h
        · cases h
      | _ => simp at h
theorem qhw {t : TypeId} {kt : KeyT} (hk : keyT P t = some kt) :
    (kt = .int ∧ ∃ k, P.underlying t = some (.int k)) ∨ (kt = .str ∧ P.underlying t = some .string) ∨ (∃ ks, kt = .agg ks ∧ q35 P 6 t = some ks ∧ aggT P t = some true) := by
  unfold keyT at hk
  cases e : P.underlying t with
  | none => simp [e] at hk
  | some ty =>
    simp only [e] at hk
    cases ty <;> simp at hk
    · exact .inl ⟨hk.symm, _, rfl⟩
    · exact .inr (.inl ⟨hk.symm, rfl⟩)
    · obtain ⟨ks, h1, rfl⟩ := hk; exact .inr (.inr ⟨ks, rfl, h1, by simp [aggT, e]⟩)
    · obtain ⟨ks, h1, rfl⟩ := hk; exact .inr (.inr ⟨ks, rfl, h1, by simp [aggT, e]⟩)
theorem qea {em : Bool} {d : Nat} {t : TypeId} {kk : IntKind} (e : P.underlying t = some (.int kk)) (k : Value) (w : World) : (Instr.checkKey em (d + 1) t k).run P w = .ok () w := by
  simp [Instr.checkKey, run_underlying e]
theorem qe9 {em : Bool} {d : Nat} {t : TypeId} (e : P.underlying t = some .string) (k : Value) (w : World) : (Instr.checkKey em (d + 1) t k).run P w = .ok () w := by
  simp [Instr.checkKey, run_underlying e]
theorem q24 {t : TypeId} {kt : KeyT} (hk : keyT P t = some kt) {k : Value} {u : Unit} (hf : q96 kt k = some u) (em : Bool) (w : World) : (Instr.checkKey em 10000 t k).run P w = .ok () w := by
  rcases qhw hk with ⟨rfl, kk, e⟩ | ⟨rfl, e⟩ | ⟨ks, rfl, hl, ha⟩
  · exact qea (d := 9999) e k w
  · exact qe9 (d := 9999) e k w
  · cases k <;> simp [q96] at hf
    exact (ckOk 6 t ks hl 10000 (by omega) em w).1 ha _ (by simpa using hf)
theorem qfj {k : Value} {kk : IntKind} : ∀ (es : List MapEntry) (i : Nat) (r : Option (Nat × Value)), q6d .int k es i = some r → Instr.findNow (.int kk) k es i = some r
  | [], i, r, h => by simpa [q6d, Instr.findNow] using h
  | e :: es, i, r, h => by
    unfold q6d at h
    unfold Instr.findNow
    cases k <;> cases hek : e.key <;> simp only [keyV, hek] at h <;> try (cases h)
    rename_i k1 a k2 b
    simp only [Instr.sameNow]
    by_cases hkk : k1 = k2
    · rw [if_pos hkk] at h ⊢
      cases hab : a == b
      · rw [hab] at h; simp only at h ⊢; exact qfj es (i + 1) r h
      · rw [hab] at h; simpa using h
    · rw [if_neg hkk] at h; cases h
theorem qfi {k : Value} : ∀ (es : List MapEntry) (i : Nat) (r : Option (Nat × Value)), q6d .str k es i = some r → Instr.findNow .string k es i = some r
  | [], i, r, h => by simpa [q6d, Instr.findNow] using h
  | e :: es, i, r, h => by
    unfold q6d at h
    unfold Instr.findNow
    cases k <;> cases hek : e.key <;> simp only [keyV, hek] at h <;> try (cases h)
    rename_i a b
    simp only [Instr.sameNow]
    rw [beq_toListBytes]
    cases hab : a.toList == b.toList
    · rw [hab] at h; simp only at h ⊢; exact qfi es (i + 1) r h
    · rw [hab] at h; simpa using h
theorem qbi {t : TypeId} {ks : List (Option IntKind)} (hl : q35 P 6 t = some ks) (ha : aggT P t = some true) {k : Value} (w : World) : ∀ (es : List MapEntry) (i : Nat) (r : Option (Nat × Value)),
    q6d (.agg ks) k es i = some r → (Instr.findAsking t k es i).run P w = .ok r w
  | [], i, r, h => by simp [q6d] at h; subst h; simp [Instr.findAsking]
  | e :: es, i, r, h => by
    unfold q6d at h
    unfold Instr.findAsking
    cases k <;> cases hek : e.key <;> simp only [keyV, hek] at h <;> try (cases h)
    rename_i xs ys
    by_cases hc : (q05 ks xs.toList && q05 ks ys.toList) = true
    · rw [if_pos hc] at h
      simp only [Bool.and_eq_true] at hc
      have := (eqOk 6 t ks hl 10000 (by omega) w).1 ha xs ys hc.1 hc.2
      simp only [Sem.run_bind, Op.equal, Op.maxDepth, this, Result.andThen_ok]
      cases hab : q0k xs.toList ys.toList
      · rw [hab] at h; simp only [Bool.false_eq_true, if_false] at h ⊢; exact qbi hl ha w es (i + 1) r h
      · rw [hab] at h; simpa using h
    · rw [if_neg hc] at h; cases h
theorem qi1 {k : Value} {ty : TypeDesc} (hty : (match ty with | .struct _ | .array _ _ => true | _ => false) = true) : ∀ (es : List MapEntry) (i : Nat), es ≠ [] → Instr.findNow ty k es i = none
  | [], i, h => absurd rfl h
  | e :: es, i, _ => by
    unfold Instr.findNow
    cases ty <;> simp_all [Instr.sameNow]
theorem q34 {t : TypeId} {kt : KeyT} (hk : keyT P t = some kt) {k : Value} {es : List MapEntry} {r : Option (Nat × Value)} (hf : q6d kt k es 0 = some r) (w : World) : (Instr.findKey t k es).run P w = .ok r w := by
  unfold Instr.findKey
  rcases qhw hk with ⟨rfl, kk, e⟩ | ⟨rfl, e⟩ | ⟨ks, rfl, hl, ha⟩
  · simp only [Sem.run_bind, run_underlying e, Result.andThen_ok, qfj es 0 r hf, Sem.run_pure]
  · simp only [Sem.run_bind, run_underlying e, Result.andThen_ok, qfi es 0 r hf, Sem.run_pure]
  · cases e : P.underlying t with
    | none => simp [aggT, e] at ha
    | some ty =>
      simp only [Sem.run_bind, run_underlying e, Result.andThen_ok]
      cases es with
      | nil => simp [q6d] at hf; subst hf; simp [Instr.findNow]
      | cons x es =>
        rw [qi1 (by cases ty <;> simp_all [aggT]) _ 0 (by simp)]
        exact qbi hl ha w _ 0 r hf
theorem q7s {r : Nat} {es : Array MapEntry} {c : Nat} (hs : Sat h w) (hm : q8n h r = some (es, c)) : (getObj r).run P w = .ok (.map es c) w := by
  unfold q8n at hm
  split at hm
  · rename_i es' c' hb
    simp only [Option.some.injEq, Prod.mk.injEq] at hm
    obtain ⟨rfl, rfl⟩ := hm
    have := (hs _ _ hb).1
    simp [getObj, Sem.run, this]
  · rename_i es' c' hb
    simp only [Option.some.injEq, Prod.mk.injEq] at hm
    obtain ⟨rfl, rfl⟩ := hm
    have := hs _ _ hb
    simp only [q91] at this
    simp [getObj, Sem.run, this]
  · cases hm
end
section
variable {P : Program} {ψ : FuncId → Option Nat} {fid : Nat → Option FuncId} {ρ : Opd → Option Value} {ev : Operand → Value} {h : Heap} {w : World}
theorem q2d {s : Sem Value} {v : Value} (h : s.run P w = .ok v w) : (do pure (Next.value (← s)) : Sem Next).run P w = .ok (.value v) w := by
  simp [h]
def EqT (P : Program) (t : TypeId) : EqK → Prop
  | .bool => P.underlying t = some .bool
  | .ptr => ∃ e, P.underlying t = some (.pointer e) ∧ ∃ n, q2i P e = some n
  | .slice => ∃ e, P.underlying t = some (.slice e)
  | .map => ∃ k e, P.underlying t = some (.map k e)
  | .func => ∃ a b c, P.underlying t = some (.func a b c)
theorem qlj {k : EqK} {ne : Bool} {t : TypeId} {x y : Operand} {a b : Value} {q : Bool} (hq : eqV k a b = some q)
    (ht : EqT P t k) :
    (eqGuard (if ne then .neq else .eql) t x y a b >>= fun _ => binOp (if ne then .neq else .eql) t a b).run P w = .ok (.bool (if ne = true then !q else q)) w := by
  have key : (Op.equalIn 10000 t a b).run P w = .ok q w ∧ (∀ op : BinOp, (eqGuard op t x y a b).run P w = .ok () w) ∧ (binOp .eql t a b = (do pure (.bool (← Op.equal t a b)))) ∧ (binOp .neq t a b = (do pure (.bool (!(← Op.equal t a b))))) := by
    unfold eqV at hq
    split at hq <;> (try (cases hq; done)) <;> (simp only [Option.some.injEq] at hq; subst hq)
    · exact ⟨run_equalIn_bool' (P := P) w 9999 t _ _ ht, fun op => by unfold eqGuard; cases op <;> simp, rfl, rfl⟩
    · obtain ⟨e, he, _⟩ := ht
      refine ⟨?_, fun op => by unfold eqGuard; cases op <;> simp, rfl, rfl⟩
      rw [show (10000 : Nat) = 9999 + 1 from rfl, Op.equalIn]
      simp only [Sem.run_bind, run_underlying he, Result.andThen_ok]
      rfl
    · obtain ⟨e, he, n, hn⟩ := ht
      refine ⟨?_, fun op => by unfold eqGuard; cases op <;> simp, rfl, rfl⟩
      rw [show (10000 : Nat) = 9999 + 1 from rfl, Op.equalIn]
      simp only [Sem.run_bind, run_underlying he, Result.andThen_ok]
      rfl
    · obtain ⟨e, he⟩ := ht
      refine ⟨?_, fun op => by unfold eqGuard; cases op <;> simp, rfl, rfl⟩
      rw [show (10000 : Nat) = 9999 + 1 from rfl, Op.equalIn]
      simp only [Sem.run_bind, run_underlying he, Result.andThen_ok]
      rfl
    · obtain ⟨e, he⟩ := ht
      refine ⟨?_, fun op => by unfold eqGuard; cases op <;> simp, rfl, rfl⟩
      rw [show (10000 : Nat) = 9999 + 1 from rfl, Op.equalIn]
      simp only [Sem.run_bind, run_underlying he, Result.andThen_ok]
      rfl
    · obtain ⟨k, e, he⟩ := ht
      refine ⟨?_, fun op => by unfold eqGuard; cases op <;> simp, rfl, rfl⟩
      rw [show (10000 : Nat) = 9999 + 1 from rfl, Op.equalIn]
      simp only [Sem.run_bind, run_underlying he, Result.andThen_ok]
      rfl
    · obtain ⟨k, e, he⟩ := ht
      refine ⟨?_, fun op => by unfold eqGuard; cases op <;> simp, rfl, rfl⟩
      rw [show (10000 : Nat) = 9999 + 1 from rfl, Op.equalIn]
      simp only [Sem.run_bind, run_underlying he, Result.andThen_ok]
      rfl
    all_goals
      obtain ⟨_, _, _, he⟩ := ht
      refine ⟨?_, fun op => by unfold eqGuard; cases op <;> simp, rfl, rfl⟩
      rw [show (10000 : Nat) = 9999 + 1 from rfl, Op.equalIn]
      simp only [Sem.run_bind, run_underlying he, Result.andThen_ok]
      rfl
  obtain ⟨h1, h2, h3, h4⟩ := key
  cases ne
  · simp only [Bool.false_eq_true, if_false, Sem.run_bind, h2, Result.andThen_ok, h3, Op.equal, Op.maxDepth, h1, Sem.run_pure]
  · simp only [if_true, Sem.run_bind, h2, Result.andThen_ok, h4, Op.equal, Op.maxDepth, h1, Sem.run_pure]
theorem qlk {ks : List (Option IntKind)} {ne : Bool} {t : TypeId} {x y : Operand} {a b : Array Value} (hg : P.eqGuardType P.depth t = false) (hl : q35 P 6 t = some ks) (ha : aggT P t = some true)
    (h1 : q05 ks a.toList = true) (h2 : q05 ks b.toList = true) :
    (eqGuard (if ne then .neq else .eql) t x y (.agg a) (.agg b) >>= fun _ => binOp (if ne then .neq else .eql) t (.agg a) (.agg b)).run P w = .ok (.bool (if ne = true then !(q0k a.toList b.toList) else q0k a.toList b.toList)) w := by
  have he := (eqOk 6 t ks hl 10000 (by omega) w).1 ha a b h1 h2
  have hgd : ∀ op : BinOp, (eqGuard op t x y (.agg a) (.agg b)).run P w = .ok () w := fun op => run_eqGuard_agg w op t x y a b hg
  cases ne
  · simp only [Bool.false_eq_true, if_false, Sem.run_bind, hgd, Result.andThen_ok, run_eql_struct, he]
  · simp only [if_true, Sem.run_bind, hgd, Result.andThen_ok, run_neq_struct, he]
theorem qgf {ne : Bool} {t : TypeId} {x y : Operand} {x' y' : Opd} {ao : AOp} (hc : eqOp P ne t x' y' = some ao) (hx : ∀ v, ρ x' = some v → ev x = v) (hy : ∀ v, ρ y' = some v → ev y = v) {v : Value}
    (hv : q00 fid ρ h ao = some v) : (eqGuard (if ne then .neq else .eql) t x y (ev x) (ev y) >>= fun _ => binOp (if ne then .neq else .eql) t (ev x) (ev y)).run P w = .ok v w := by
  unfold eqOp at hc
  have bin : ∀ op, (op = if ne then BinOp.neq else .eql) → ao = .bin op x' y' → ((∃ k, P.underlying t = some (.int k)) ∨ P.underlying t = some .string) →
      (eqGuard (if ne then .neq else .eql) t x y (ev x) (ev y) >>= fun _ => binOp (if ne then .neq else .eql) t (ev x) (ev y)).run P w = .ok v w := by
    intro op hop hao hty
    subst hao
    simp only [q00] at hv
    split at hv
    · rename_i a b ha hb
      rw [hx _ ha, hy _ hb]
      have hg : ∀ op : BinOp, (eqGuard op t x y a b).run P w = .ok () w := by
        intro op'
        unfold eqGuard
        unfold binV at hv
        split at hv <;> first | (cases op' <;> simp; done) | (simp_all; done) | (subst hop; cases ne <;> simp_all)
      simp only [Sem.run_bind, hg, Result.andThen_ok]
      subst hop
      cases ne
      · simp only [Bool.false_eq_true, if_false] at hv ⊢
        unfold binV at hv
        split at hv <;> simp_all [binOp, Op.intCmp, Op.stringOp]
        all_goals (try (obtain ⟨rfl, rfl⟩ := hv; simp [Op.intCmp]))
      · simp only [if_true] at hv ⊢
        unfold binV at hv
        split at hv <;> simp_all [binOp, Op.intCmp, Op.stringOp]
        all_goals (try (obtain ⟨rfl, rfl⟩ := hv; simp [Op.intCmp]))
    · cases hv
  have eqv : ∀ k, ao = .eqv k ne x' y' → EqT P t k →
      (eqGuard (if ne then .neq else .eql) t x y (ev x) (ev y) >>= fun _ => binOp (if ne then .neq else .eql) t (ev x) (ev y)).run P w = .ok v w := by
    intro k hao hty
    subst hao
    simp only [q00] at hv
    split at hv
    · rename_i a b ha hb
      rw [hx _ ha, hy _ hb]
      simp only [Option.map_eq_some_iff] at hv
      obtain ⟨q, hq, rfl⟩ := hv
      exact qlj hq hty
    · cases hv
  cases e : P.underlying t with
  | none => simp [e] at hc
  | some ty =>
    simp only [e] at hc
    cases ty <;> simp only at hc <;> try (cases hc; done)
    case bool => simp only [Option.some.injEq] at hc; exact eqv .bool hc.symm e
    case int k => simp only [Option.some.injEq] at hc; exact bin _ rfl hc.symm (.inl ⟨k, e⟩)
    case string => simp only [Option.some.injEq] at hc; exact bin _ rfl hc.symm (.inr e)
    case pointer el =>
      split at hc
      · rename_i n hn
        simp only [Option.some.injEq] at hc; exact eqv .ptr hc.symm ⟨el, e, n, hn⟩
      · cases hc
    case slice el => simp only [Option.some.injEq] at hc; exact eqv .slice hc.symm ⟨el, e⟩
    case map k el => simp only [Option.some.injEq] at hc; exact eqv .map hc.symm ⟨k, el, e⟩
    case func a b c => simp only [Option.some.injEq] at hc; exact eqv .func hc.symm ⟨a, b, c, e⟩
    all_goals
      split at hc
      · cases hc
      · rename_i hg
        simp only [Option.map_eq_some_iff] at hc
        obtain ⟨ks, hl, rfl⟩ := hc
        simp only [q00] at hv
        split at hv
        · rename_i a b ha hb
          rw [hx _ ha, hy _ hb]
          split at hv
          · rename_i hlv
            simp only [Bool.and_eq_true] at hlv
            simp only [Option.some.injEq] at hv
            subst hv
            exact qlk (by simpa using hg) hl (by simp [aggT, e]) hlv.1 hlv.2
          · cases hv
        · cases hv
end
section
variable {P : Program} {ψ : FuncId → Option Nat} {fid : Nat → Option FuncId} {ρ : Opd → Option Value} {ev : Operand → Value} {h : Heap} {w : World}
def AOp.quiet : AOp → Bool
  | .alloc _ | .box _ | .bslice .. | .mslice .. | .mmap | .store .. | .call .. | .callv .. | .append .. | .appendZ .. | .copy .. | .mupd .. | .mdel .. | .bytesOf _ | .mark _ | .rangeM _ | .nextM _ | .entryM _ | .bad => false
  | _ => true
theorem qcg {fs : Array Field} {i : Nat} : (match fs[i]? with | some f => (q2i P f.type).map fun s => (f.offset, s) | none => none) = (fs[i]?).bind fun f => (q2i P f.type).map fun s => (f.offset, s) := by
  cases fs[i]? <;> rfl
theorem qim (fs : Array Field) (hall : fs.toList.all (fun f => (q2i P f.type).isSome) = true) (w : World) :
    ∃ pl : Array (Nat × Nat), (fs.mapM (fun f => do pure (f.offset, ← sizeOf f.type)) : Sem (Array (Nat × Nat))).run P w = .ok pl w ∧ ∀ i : Nat, pl[i]? = (fs[i]?).bind fun f => (q2i P f.type).map fun s => (f.offset, s) := by
  obtain ⟨l⟩ := fs
  simp only at hall
  have key : ∀ l : List Field, l.all (fun f => (q2i P f.type).isSome) = true → ∃ pl : List (Nat × Nat), (l.mapM (fun f => do pure (f.offset, ← sizeOf f.type)) : Sem (List (Nat × Nat))).run P w = .ok pl w ∧ ∀ i : Nat, pl[i]? = (l[i]?).bind fun f => (q2i P f.type).map fun s => (f.offset, s) := by
    intro l
    induction l with
    | nil => intro _; exact ⟨[], by simp, fun i => by simp⟩
    | cons f l ih =>
      intro hl
      simp only [List.all_cons, Bool.and_eq_true] at hl
      obtain ⟨pl, hp, hi⟩ := ih hl.2
      obtain ⟨n, hn⟩ := Option.isSome_iff_exists.1 hl.1
      refine ⟨(f.offset, n) :: pl, ?_, ?_⟩
      · simp only [List.mapM_cons, Sem.run_bind, q0p hn, Result.andThen_ok, Sem.run_pure, hp]
      · intro i
        cases i with
        | zero => simp [hn]
        | succ i => simpa using hi i
  obtain ⟨pl, hp, hi⟩ := key l hall
  refine ⟨pl.toArray, ?_, fun i => by simpa using hi i⟩
  rw [List.mapM_toArray]
  simp only [Sem.run_map, hp, Result.andThen_ok]
theorem run_prim {f : FuncId} {fn : Func} {p : Prim} {xs : List Value} {v : Value} (hf : P.funcs[f]? = some fn) (hb : fn.body.isNone = true) (hp : qkt fn.name = some p)
    (ho : (Extern.allNextRows.lookup fn.origin).isNone = true) (hv : qks p xs = some v) : (callFunc f xs.toArray).run P w = .ok (.value v) w := by
  have hno : Extern.allNextRows.lookup fn.origin = none := by simpa using ho
  unfold qkt at hp
  split at hp
  · rename_i hn
    simp only [Option.some.injEq] at hp; subst hp
    have h1 : Extern.findNext fn = none := by
      unfold Extern.findNext
      have : Extern.allNextRows.lookup fn.name = none := by rw [hn]; kernel_rfl
      simp only [this, hno]; rfl
    have h2 : Extern.find fn = some add64Entry := by
      unfold Extern.find
      have e1 : Extern.allGenericRows.lookup fn.name = none := by rw [hn]; kernel_rfl
      have e2 : Extern.allTypedRows.lookup fn.name = none := by rw [hn]; kernel_rfl
      have e3 : Extern.allRows.lookup fn.name = some add64Entry := by rw [hn]; kernel_rfl
      simp only [e1, e2, e3]; rfl
    rw [run_callFunc_extern hf (by rw [hn]; decide) hb h1 h2]
    unfold qks at hv
    split at hv
    · split at hv
      · rename_i hc
        simp only [Option.some.injEq] at hv; subst hv
        rcases hc with rfl | rfl <;> rfl
      · cases hv
    · exact nomatch ‹Prim.add64 = Prim.sub64›
    · cases hv
  · split at hp
    · rename_i hn0 hn
      simp only [Option.some.injEq] at hp; subst hp
      let sub64Entry : Array Value → Sem Value := fun args => do
        let (x, y, b) ← Extern.MathBitsCarry.three "Sub64" args
        pure (Extern.MathBitsCarry.pair ((x + Extern.MathBitsCarry.m64 - y - b) % Extern.MathBitsCarry.m64) (if x < y + b then 1 else 0))
      have h1 : Extern.findNext fn = none := by
        unfold Extern.findNext
        have : Extern.allNextRows.lookup fn.name = none := by rw [hn]; kernel_rfl
        simp only [this, hno]; rfl
      have h2 : Extern.find fn = some sub64Entry := by
        unfold Extern.find
        have e1 : Extern.allGenericRows.lookup fn.name = none := by rw [hn]; kernel_rfl
        have e2 : Extern.allTypedRows.lookup fn.name = none := by rw [hn]; kernel_rfl
        have e3 : Extern.allRows.lookup fn.name = some sub64Entry := by rw [hn]; kernel_rfl
        simp only [e1, e2, e3]; rfl
      rw [run_callFunc_extern hf (by rw [hn]; decide) hb h1 h2]
      unfold qks at hv
      split at hv
      · exact nomatch ‹Prim.sub64 = Prim.add64›
      · split at hv
        · rename_i hc
          simp only [Option.some.injEq] at hv; subst hv
          rcases hc with rfl | rfl <;> rfl
        · cases hv
      · cases hv
    · cases hp
theorem qh4 {l : List Operand} {x : Opd} (e : conL ψ l = some [x]) : ∃ x0, l = [x0] ∧ conO ψ x0 = some x := by
  cases l with
  | nil => simp [conL] at e
  | cons a l =>
    simp only [conL] at e
    split at e
    · rename_i y ys hy hys
      simp only [Option.some.injEq, List.cons.injEq] at e
      obtain ⟨rfl, rfl⟩ := e
      cases l with
      | nil => exact ⟨a, rfl, hy⟩
      | cons b l =>
        simp only [conL] at hys
        split at hys <;> simp at hys
    · cases e
theorem qcj {l : List Operand} {x y : Opd} (e : conL ψ l = some [x, y]) : ∃ x0 y0, l = [x0, y0] ∧ conO ψ x0 = some x ∧ conO ψ y0 = some y := by
  cases l with
  | nil => simp [conL] at e
  | cons a l =>
    simp only [conL] at e
    split at e
    · rename_i z zs hz hzs
      simp only [Option.some.injEq, List.cons.injEq] at e
      obtain ⟨rfl, rfl⟩ := e
      obtain ⟨b, rfl, hb⟩ := qh4 hzs
      exact ⟨a, b, rfl, hz, hb⟩
    · cases e
theorem q8i (hs : Sat h w) (ha : qdn ψ ρ ev) (hfid : ∀ f n, ψ f = some n → fid n = some f) (hevf : ∀ f, ev (.func f) = .func (.func f) #[] #[]) {o : Oper} {ao : AOp} {v : Value} (hc : q8b P ψ o.op = some ao) (hv : q00 fid ρ h ao = some v) : (execOp ev o).run P w = .ok (.value v) w := by
  unfold q8b at hc
  unfold execOp
  cases hop : o.op <;> rw [hop] at hc <;> simp only at hc ⊢
  case move x =>
    simp only [Option.map_eq_some_iff] at hc
    obtain ⟨y, hy, rfl⟩ := hc
    simp only [q00] at hv
    simp [ha x y v hy hv]
  case assign x =>
    simp only [Option.map_eq_some_iff] at hc
    obtain ⟨y, hy, rfl⟩ := hc
    simp only [q00] at hv
    simp [ha x y v hy hv]
  case pick c a b =>
    split at hc
    · rename_i c' a' b' h1 h2 h3
      simp only [Option.some.injEq] at hc; subst hc
      simp only [q00] at hv
      split at hv
      · rename_i q hq
        rw [ha c c' _ h1 hq]
        cases q
        · simp only [Bool.false_eq_true, if_false] at hv; simp [asBool, ha b b' _ h3 hv]
        · simp only [if_true] at hv; simp [asBool, ha a a' _ h2 hv]
      · cases hv
    · cases hc
  case load t x =>
    split at hc
    · rename_i k x' hk hx
      simp only [Option.some.injEq] at hc; subst hc
      simp only [q00] at hv
      split at hv
      · rename_i a hxa
        have := ha x x' _ hx hxa
        rw [this]
        refine q2d ?_
        simp only [Instr.loadAt, Instr.sureAddr, Sem.run_bind, Sem.run_pure, Result.andThen_ok]
        exact qds hs hk hv
      · cases hv
    · cases hc
  case nilCheck x =>
    simp only [Option.map_eq_some_iff] at hc
    obtain ⟨y, hy, rfl⟩ := hc
    simp only [q00] at hv
    split at hv
    · rename_i a hx
      simp only [Option.some.injEq] at hv; subst hv
      rw [ha x y _ hy hx]; rfl
    · rename_i f a b hx
      simp only [Option.some.injEq] at hv; subst hv
      rw [ha x y _ hy hx]; rfl
    · cases hv
  case binOp op t x y yt =>
    split at hc
    · rename_i x' y' hx hy
      refine q2d ?_
      by_cases he : op = .eql
      · subst he
        exact qgf (ne := false) hc (fun v hv => ha x x' v hx hv) (fun v hv => ha y y' v hy hv) hv
      · by_cases hn : op = .neq
        · subst hn
          exact qgf (ne := true) hc (fun v hv => ha x x' v hx hv) (fun v hv => ha y y' v hy hv) hv
        · have hao : ao = .bin op x' y' := by
            cases op <;> simp_all
          subst hao
          simp only [q00] at hv
          split at hv
          · rename_i a b h1 h2
            rw [ha x x' _ hx h1, ha y y' _ hy h2]
            exact qk3 he hn hv
          · cases hv
    · cases hc
  case unOp op t x =>
    simp only [Option.map_eq_some_iff] at hc
    obtain ⟨y, hy, rfl⟩ := hc
    simp only [q00] at hv
    split at hv
    · rename_i a hx
      rw [ha x y _ hy hx]
      refine q2d ?_
      unfold unV at hv
      split at hv <;> (try (cases hv; done)) <;> simp only [Option.some.injEq] at hv <;> subst hv <;> rfl
    · cases hv
  case convert s d x =>
    refine q2d ?_
    split at hc
    · rename_i x' ks kd hx h1 h2
      simp only [Option.some.injEq] at hc; subst hc
      simp only [q00] at hv
      split at hv
      · rename_i k n hxn
        simp only [Option.some.injEq] at hv; subst hv
        rw [ha x x' _ hx hxn]
        simp [convert, run_underlying h1, run_underlying h2, Conv.intToInt]
      · cases hv
    · rename_i x' hx h1 h2
      simp only [Option.some.injEq] at hc; subst hc
      simp only [q00] at hv
      split at hv
      · rename_i s hxn
        simp only [Option.some.injEq] at hv; subst hv
        rw [ha x x' _ hx hxn]
        simp [convert, run_underlying h1, run_underlying h2]
      · cases hv
    · rename_i x' e hx h1 h2
      split at hc
      · rename_i h3
        simp only [Option.some.injEq] at hc; subst hc
        simp only [q00] at hv
        split at hv
        · rename_i l c hxn
          simp only [Option.some.injEq] at hv; subst hv
          rw [ha x x' _ hx hxn]
          simp [convert, run_underlying h1, run_underlying h2, run_underlying h3, Conv.bytesToString]
        · rename_i a n c hxn
          split at hv
          · rename_i l hl
            simp only [Option.map_eq_some_iff] at hv
            obtain ⟨bs, hb, rfl⟩ := hv
            rw [ha x x' _ hx hxn]
            simp only [convert, Sem.run_bind, run_underlying h1, run_underlying h2, run_underlying h3, Result.andThen_ok]
            exact bts l bs a n c hs hl hb
          · cases hv
        · cases hv
      · cases hc
    · rename_i x' e hx h1 h2
      split at hc
      · simp only [Option.some.injEq] at hc; subst hc
        simp [q00] at hv
      · cases hc
    · rename_i x' e1 e hx h1 h2
      split at hc
      · split at hc
        · simp only [Option.some.injEq] at hc; subst hc
          simp [q00] at hv
        · cases hc
      · cases hc
    · cases hc
  case sliceToArrayPointer t x =>
    refine q2d ?_
    split at hc
    · rename_i x' n e hx h1
      simp only [Option.some.injEq] at hc; subst hc
      simp only [q00] at hv
      split at hv
      · rename_i a len c hxn
        split at hv
        · cases hv
        · rename_i hlt
          simp only [Option.some.injEq] at hv; subst hv
          rw [ha x x' _ hx hxn]
          simp [Instr.arrayAt, run_underlying h1, hlt]
      · cases hv
    · cases hc
  case makeFunc fn first captured =>
    refine q2d ?_
    cases fn <;> simp only at hc <;> try (cases hc; done)
    rename_i f
    split at hc
    · rename_i n a b hn h1 h2
      simp only [Option.some.injEq] at hc; subst hc
      simp only [q00] at hv
      split at hv
      · rename_i f' va vb hf' hva hvb
        simp only [Option.some.injEq] at hv; subst hv
        have := hfid f n hn
        rw [this] at hf'
        simp only [Option.some.injEq] at hf'; subst hf'
        have e1 := qdg ha h1 hva
        have e2 := qdg ha h2 hvb
        simp only [Instr.makeFunc, Sem.run_pure]
        congr 2
        · apply Array.ext'; simpa using e1
        · apply Array.ext'; simpa using e2
      · cases hv
    · cases hc
  case extract x i =>
    refine q2d ?_
    simp only [Option.map_eq_some_iff] at hc
    obtain ⟨y, hy, rfl⟩ := hc
    simp only [q00] at hv
    split at hv
    · rename_i vs hx
      rw [ha x y _ hy hx]
      have : vs[i]? = some v := by simpa using hv
      simp [Instr.extract, this]
    · cases hv
  case fieldAddr s x f =>
    refine q2d ?_
    split at hc
    · rename_i x' fs hx h1
      split at hc
      · rename_i fd hf
        split at hc
        · rename_i sz hsz
          simp only [Option.some.injEq] at hc; subst hc
          simp only [q00] at hv
          split at hv
          · rename_i a hxa
            split at hv
            · rename_i hsp
              simp only [Option.some.injEq] at hv; subst hv
              rw [ha x x' _ hx hxa]
              simp only [Instr.fieldAt, Sem.run_bind, run_underlying h1, Result.andThen_ok, hf, Instr.sureAddr, Sem.run_pure, fieldPlace, q0p hsz]
              simp only [Sem.run_ite, Nat.add_eq_zero_iff, Nat.one_ne_zero, and_false, if_false, Sem.run_pure, Result.andThen_ok]
              congr 3
              obtain ⟨b, o, sp⟩ := a
              simp only at hsp; subst hsp
              unfold Addr.add
              split <;> simp_all
            · cases hv
          · cases hv
        · cases hc
      · cases hc
    · cases hc
  case field t x f =>
    refine q2d ?_
    split at hc
    · rename_i x' fs hx h1
      split at hc
      · rename_i fd hf
        simp only [Option.map_eq_some_iff] at hc
        obtain ⟨k, hk, rfl⟩ := hc
        simp only [q00] at hv
        split at hv
        · rename_i cs hxa
          rw [ha x x' _ hx hxa]
          simp only [Instr.field, Sem.run_bind, run_underlying h1, Result.andThen_ok, hf, asAgg, Sem.run_pure]
          exact q81 hk hv
        · cases hv
      · cases hc
    · cases hc
  case indexAddr t x i =>
    refine q2d ?_
    have place : ∀ (a : Addr) (k : Nat), a.spot = none → a.add k = ⟨a.block, a.off + k, none⟩ := by
      intro a k hsp
      obtain ⟨b, o, sp⟩ := a
      simp only at hsp; subst hsp
      unfold Addr.add
      split <;> simp_all
    split at hc
    · rename_i x' i' n e hx hi h1
      simp only [Option.map_eq_some_iff] at hc
      obtain ⟨s, hsz, rfl⟩ := hc
      simp only [q00] at hv
      split at hv
      · rename_i a k j hxa hij
        split at hv
        · rename_i hcond
          simp only [Option.some.injEq] at hv; subst hv
          rw [ha x x' _ hx hxa, ha i i' _ hi hij]
          simp only [Instr.indexAt, asIntOf, Sem.run_bind, Sem.run_pure, run_underlying h1, Result.andThen_ok, Instr.sureAddr]
          simp only [Sem.run_ite, hcond.2.1, hcond.2.2, and_self, if_true, Sem.run_bind, q0p hsz, Result.andThen_ok, Sem.run_pure, place a _ hcond.1]
        · cases hv
      · cases hv
    · rename_i x' i' e hx hi h1
      simp only [Option.map_eq_some_iff] at hc
      obtain ⟨s, hsz, rfl⟩ := hc
      simp only [q00] at hv
      split at hv
      · rename_i a n c k j hxa hij
        split at hv
        · rename_i hcond
          simp only [Option.some.injEq] at hv; subst hv
          rw [ha x x' _ hx hxa, ha i i' _ hi hij]
          simp only [Instr.indexAt, asIntOf, Sem.run_bind, Sem.run_pure, run_underlying h1, Result.andThen_ok]
          simp only [Sem.run_ite, hcond.2.1, hcond.2.2, and_self, if_true, Sem.run_bind, q0p hsz, Result.andThen_ok, Sem.run_pure, place a _ hcond.1]
        · cases hv
      · cases hv
    · cases hc
  case index t x i =>
    refine q2d ?_
    split at hc
    · rename_i x' i' n e hx hi h1
      split at hc
      · rename_i s k hsz hk
        simp only [Option.some.injEq] at hc; subst hc
        simp only [q00] at hv
        split at hv
        · rename_i cs kk j hxa hij
          split at hv
          · rename_i hcond
            rw [ha x x' _ hx hxa, ha i i' _ hi hij]
            simp only [Instr.index, asIntOf, Sem.run_bind, Sem.run_pure, run_underlying h1, Result.andThen_ok]
            simp only [Sem.run_ite, hcond, and_self, if_true, Sem.run_bind, q0p hsz, Result.andThen_ok]
            exact q81 hk hv
          · cases hv
        · cases hv
      · cases hc
    · rename_i x' i' hx hi h1
      simp only [Option.some.injEq] at hc; subst hc
      simp only [q00] at hv
      split at hv
      · rename_i s kk j hxa hij
        split at hv
        · rename_i hcond
          rw [ha x x' _ hx hxa, ha i i' _ hi hij]
          simp only [Option.map_eq_some_iff] at hv
          obtain ⟨b, hb, rfl⟩ := hv
          have hlt : j.toNat < s.size := by
            rcases Nat.lt_or_ge j.toNat s.size with g | g
            · exact g
            · rw [List.getElem?_eq_none (by simpa using g)] at hb; cases hb
          have hb' : s[j.toNat]? = some b := by
            rw [getElem?_pos s j.toNat hlt]
            have : s.data.toList[j.toNat]? = some (s[j.toNat]'hlt) := by
              rw [List.getElem?_eq_getElem (by simpa using hlt)]
              simp; rfl
            rw [this] at hb; exact hb
          simp [Instr.index, asIntOf, run_underlying h1, hcond, hb']
        · cases hv
      · cases hv
    · cases hc
  case slice t x lo hi m =>
    refine q2d ?_
    split at hc
    · rename_i x' lo' hi' hx h1 h2 h3 h4
      simp only [Option.some.injEq] at hc; subst hc
      simp only [q00] at hv
      split at hv
      · rename_i s hxa
        split at hv
        · rename_i l hh mm hb
          simp only [Option.some.injEq] at hv; subst hv
          have hm : m = none := by
            cases m with
            | none => rfl
            | some q => simp [qan] at h3
          subst hm
          have := qh8 (P := P) (w := w) ha h1 h2 (m := none) (m' := none) (by rfl) (by simpa [oOpt] using hb) false
          rw [ha x x' _ hx hxa]
          simp only [Instr.sliceAt, Sem.run_bind, run_underlying h4, Result.andThen_ok, Instr.slice, Option.map_none, Option.isSome_none, Bool.false_eq_true, if_false, Sem.run_ite, Sem.run_pure]
          simp only [Option.map_none] at this
          rw [this]; rfl
        · cases hv
      · cases hv
    · rename_i x' lo' hi' m' e hx h1 h2 h3 h4
      simp only [Option.map_eq_some_iff] at hc
      obtain ⟨s, hsz, rfl⟩ := hc
      simp only [q00] at hv
      split at hv
      · rename_i a len cap hxa
        split at hv
        · rename_i l hh mm hb
          simp only [Option.some.injEq] at hv; subst hv
          have := qh8 (P := P) (w := w) ha h1 h2 h3 hb true
          rw [ha x x' _ hx hxa]
          simp only [Instr.sliceAt, Sem.run_bind, run_underlying h4, Result.andThen_ok, Instr.slice, this, q0p hsz, Sem.run_pure]
        · cases hv
      · cases hv
    · rename_i x' lo' hi' m' n e hx h1 h2 h3 h4
      simp only [Option.map_eq_some_iff] at hc
      obtain ⟨s, hsz, rfl⟩ := hc
      simp only [q00] at hv
      split at hv
      · rename_i a hxa
        split at hv
        · rename_i l hh mm hb
          simp only [Option.some.injEq] at hv; subst hv
          have := qh8 (P := P) (w := w) ha h1 h2 h3 hb false
          rw [ha x x' _ hx hxa]
          simp only [Instr.sliceAt, Sem.run_bind, run_underlying h4, Result.andThen_ok, Instr.sureAddr, this, q0p hsz, Sem.run_pure]
        · cases hv
      · cases hv
    · cases hc
  case build t parts =>
    refine q2d ?_
    have hparts : (parts.map fun (i, x) => (i, ev x)).toList = parts.toList.map fun (i, x) => (i, ev x) := by simp
    split at hc
    · rename_i fs z h1 hz
      simp only [Option.map_eq_some_iff] at hc
      obtain ⟨ps, hps, hao⟩ := hc
      split at hao
      · rename_i hall
        subst hao
        simp only [q00] at hv
        split at hv
        · rename_i vs hvs
          simp only [Option.map_eq_some_iff] at hv
          obtain ⟨l, hl, rfl⟩ := hv
          obtain ⟨zz, hzz, rfl⟩ : ∃ zz : Value, (zeroValue t).run P w = .ok zz w ∧ zz.cells.toList = z := by
            unfold qc1 at hz
            simp only [Option.map_eq_some_iff, Option.bind_eq_some_iff] at hz
            obtain ⟨zz, ⟨i, hi, hzi⟩, rfl⟩ := hz
            exact ⟨zz, by simp [zeroValue, q1y hi, hzi], rfl⟩
          obtain ⟨pl, hpl, hplaces⟩ := qim (P := P) fs hall w
          have hfun : (fun (i : Nat) => match (fs[i]? : Option Field) with | some f => (q2i P f.type).map fun s => (f.offset, s) | none => none) = (pl[·]?) := by
            funext i; rw [qcg, hplaces i]
          have hps' : q9c ψ (pl[·]?) parts.toList = some ps := by rw [← hfun]; exact hps
          have := qa4 ha hps' hvs hl
          simp only [Instr.build, Sem.run_bind, hzz, Result.andThen_ok, run_underlying h1, hpl, hparts]
          simp only [Array.toArray_toList] at this
          rw [this]; try rfl
        · cases hv
      · subst hao; simp [q00] at hv
    · rename_i n e z h1 hz
      split at hc
      · rename_i s hsz
        simp only [Option.map_eq_some_iff] at hc
        obtain ⟨ps, hps, rfl⟩ := hc
        simp only [q00] at hv
        split at hv
        · rename_i vs hvs
          simp only [Option.map_eq_some_iff] at hv
          obtain ⟨l, hl, rfl⟩ := hv
          obtain ⟨zz, hzz, rfl⟩ : ∃ zz : Value, (zeroValue t).run P w = .ok zz w ∧ zz.cells.toList = z := by
            unfold qc1 at hz
            simp only [Option.map_eq_some_iff, Option.bind_eq_some_iff] at hz
            obtain ⟨zz, ⟨i, hi, hzi⟩, rfl⟩ := hz
            exact ⟨zz, by simp [zeroValue, q1y hi, hzi], rfl⟩
          have := qa4 ha hps hvs hl
          simp only [Instr.build, Sem.run_bind, hzz, Result.andThen_ok, run_underlying h1, q0p hsz, hparts]
          simp only [Array.toArray_toList] at this
          rw [this]; try rfl
        · cases hv
      · cases hc
    · cases hc
  case lookup t m k ok =>
    refine q2d ?_
    split at hc
    · rename_i m' k' kt e hm hk h1
      split at hc
      · rename_i kt' z hkt hz
        simp only [Option.some.injEq] at hc; subst hc
        simp only [q00] at hv
        have hzz : (zeroValue e).run P w = .ok z w := by
          simp only [Option.bind_eq_some_iff] at hz
          obtain ⟨i, hi, hzi⟩ := hz
          simp [zeroValue, q1y hi, hzi]
        split at hv
        · rename_i kv hmv hkv
          simp only [Option.map_eq_some_iff] at hv
          obtain ⟨u, hu, rfl⟩ := hv
          rw [ha m m' _ hm hmv, ha k k' _ hk hkv]
          have hck := q24 hkt hu true w
          have hfk := q34 hkt (k := kv) (es := []) (r := none) (by simp [q6d]) w
          simp only [Instr.lookup, Sem.run_bind, run_underlying h1, Result.andThen_ok, Sem.run_pure, Array.isEmpty_empty, hck, hfk, hzz]
        · rename_i r kv hmv hkv
          split at hv
          · rename_i es c hes
            rw [ha m m' _ hm hmv, ha k k' _ hk hkv]
            split at hv
            · rename_i u i vv hu hfv
              simp only [Option.some.injEq] at hv; subst hv
              have hck := q24 hkt hu es.isEmpty w
              have hfk := q34 hkt hfv w
              simp only [Instr.lookup, Sem.run_bind, run_underlying h1, Result.andThen_ok, Sem.run_pure, q7s hs hes, hck, hfk]
            · rename_i u hu hfv
              simp only [Option.some.injEq] at hv; subst hv
              have hck := q24 hkt hu es.isEmpty w
              have hfk := q34 hkt hfv w
              simp only [Instr.lookup, Sem.run_bind, run_underlying h1, Result.andThen_ok, Sem.run_pure, q7s hs hes, hck, hfk, hzz]
            · cases hv
          · cases hv
        · cases hv
      · cases hc
    · cases hc
  case call c =>
    obtain ⟨callee, args, argTypes⟩ := c
    unfold qe4 at hc
    simp only at hc
    cases callee with
    | invoke r m => simp at hc
    | value f =>
      cases f <;> simp only at hc
      case func f =>
        split at hc
        · cases hc
        · rename_i fn hf
          split at hc
          · rename_i hb
            split at hc
            · rename_i p xs hp hxs
              split at hc
              · rename_i ho
                simp only [Option.some.injEq] at hc; subst hc
                simp only [q00] at hv
                split at hv
                · rename_i vs hvs
                  have hargs := qdg ha hxs hvs
                  have := run_prim (P := P) (w := w) hf hb hp ho hv
                  simp only [Sem.run_bind, resolve, hevf, Deferred.ofValue, Sem.run_pure, Result.andThen_ok, invoke]
                  have h3 : args.map ev = vs.toArray := Array.ext' (by simpa using hargs)
                  simpa [h3] using this
                · cases hv
              · cases hc
            · cases hc
          · split at hc
            · simp only [Option.some.injEq] at hc; subst hc; simp [q00] at hv
            · cases hc
      all_goals
        split at hc
        · simp only [Option.some.injEq] at hc; subst hc; simp [q00] at hv
        · cases hc
    | builtin b =>
      simp only at hc
      have hres : ∀ (b : Builtin), ∃ cs, (do let d ← resolve ev { callee := .builtin b, args := args, argTypes := argTypes } o.type; invoke d.target d.args : Sem Next) = builtin b argTypes o.type cs (args.map ev) := by
        intro b; exact ⟨_, rfl⟩
      split at hc
      · rename_i x t ts h1 h2
        obtain ⟨cs, hr⟩ := hres .len
        rw [hr]
        obtain ⟨x0, hx0, hx⟩ := qh4 h1
        have hA : args = #[x0] := by apply Array.ext'; simpa using hx0
        have hT : argTypes[0]? = some t := by have := congrArg (·[0]?) h2; simpa using this
        subst hA
        refine q2d ?_
        simp only [Builtin.len_, hT]
        split at hc <;> (try (cases hc; done))
        · rename_i hu
          simp only [Option.some.injEq] at hc; subst hc
          simp only [q00] at hv
          split at hv
          · rename_i s hs'
            simp only [Option.some.injEq] at hv; subst hv
            simp [run_underlying hu, ha x0 x _ hx hs', goInt]
          · cases hv
        · rename_i n e hu
          simp only [Option.some.injEq] at hc; subst hc
          simp only [q00, Option.some.injEq] at hv; subst hv
          simp [run_underlying hu, goInt]
        · rename_i a hu
          split at hc
          · rename_i n e hu2
            simp only [Option.some.injEq] at hc; subst hc
            simp only [q00, Option.some.injEq] at hv; subst hv
            simp [run_underlying hu, run_underlying hu2, goInt]
          · cases hc
        · rename_i e hu
          simp only [Option.some.injEq] at hc; subst hc
          simp only [q00] at hv
          split at hv
          · rename_i a n c hs'
            simp only [Option.some.injEq] at hv; subst hv
            simp [run_underlying hu, ha x0 x _ hx hs', goInt]
          · cases hv
        · rename_i k e hu
          simp only [Option.some.injEq] at hc; subst hc
          simp only [q00] at hv
          split at hv
          · rename_i hs'
            simp only [Option.some.injEq] at hv; subst hv
            simp [run_underlying hu, ha x0 x _ hx hs', goInt]
          · rename_i r hs'
            simp only [Option.map_eq_some_iff] at hv
            obtain ⟨⟨es, c⟩, hes, rfl⟩ := hv
            simp [run_underlying hu, ha x0 x _ hx hs', goInt, q7s hs hes]
          · cases hv
      · rename_i x t ts h1 h2
        obtain ⟨cs, hr⟩ := hres .cap
        rw [hr]
        obtain ⟨x0, hx0, hx⟩ := qh4 h1
        have hA : args = #[x0] := by apply Array.ext'; simpa using hx0
        have hT : argTypes[0]? = some t := by have := congrArg (·[0]?) h2; simpa using this
        subst hA
        refine q2d ?_
        simp only [Builtin.cap_, hT]
        split at hc <;> (try (cases hc; done))
        rename_i e hu
        simp only [Option.some.injEq] at hc; subst hc
        simp only [q00] at hv
        split at hv
        · rename_i a n c hs'
          simp only [Option.some.injEq] at hv; subst hv
          simp [run_underlying hu, ha x0 x _ hx hs', goInt]
        · cases hv
      · rename_i x y h1
        obtain ⟨cs, hr⟩ := hres .min
        rw [hr]
        obtain ⟨x0, y0, hx0, hx, hy⟩ := qcj h1
        have hA : args = #[x0, y0] := by apply Array.ext'; simpa using hx0
        subst hA
        refine q2d ?_
        simp only [Option.some.injEq] at hc; subst hc
        simp only [q00] at hv
        split at hv
        · rename_i k a k2 b hxa hyb
          simp only [Option.some.injEq] at hv; subst hv
          simp [Builtin.min_, ha x0 x _ hx hxa, ha y0 y _ hy hyb, Builtin.min2]
        · cases hv
      · rename_i x y h1
        obtain ⟨cs, hr⟩ := hres .max
        rw [hr]
        obtain ⟨x0, y0, hx0, hx, hy⟩ := qcj h1
        have hA : args = #[x0, y0] := by apply Array.ext'; simpa using hx0
        subst hA
        refine q2d ?_
        simp only [Option.some.injEq] at hc; subst hc
        simp only [q00] at hv
        split at hv
        · rename_i k a k2 b hxa hyb
          simp only [Option.some.injEq] at hv; subst hv
          simp [Builtin.max_, ha x0 x _ hx hxa, ha y0 y _ hy hyb, Builtin.max2]
        · cases hv
      all_goals
        exfalso
        repeat' (first | (cases hc; done) | (split at hc))
        all_goals first
          | (simp only [Option.some.injEq] at hc; subst hc; simp [q00] at hv; done)
          | (simp only [Option.map_eq_some_iff] at hc; obtain ⟨_, _, rfl⟩ := hc; simp [q00] at hv; done)
  all_goals
    exfalso
    repeat' (first | (cases hc; done) | (split at hc))
    all_goals first
      | (simp only [Option.some.injEq] at hc; subst hc; simp [q00] at hv; done)
      | (simp only [Option.map_eq_some_iff] at hc; obtain ⟨_, _, rfl⟩ := hc; simp [q00] at hv; done)
end
section
variable {P : Program} {ψ : FuncId → Option Nat} {fid : Nat → Option FuncId} {ρ : Opd → Option Value} {ev : Operand → Value} {h : Heap} {w : World}
theorem qey (z : List Value) (hz : 0 < z.length) : ∀ c : Nat, ((Array.range (c * z.length)).map fun i => z.toArray[i % z.toArray.size]!).toList = List.flatten (List.replicate c z) := by
  intro c
  simp only [Array.toList_map, Array.toList_range, List.size_toArray]
  induction c with
  | zero => simp
  | succ c ih =>
    rw [Nat.succ_mul, List.range_add, List.map_append, ih, List.replicate_succ', List.flatten_append]
    congr 1
    simp only [List.map_map, List.flatten_cons, List.flatten_nil, List.append_nil]
    apply List.ext_getElem?
    intro i
    simp only [List.getElem?_map]
    by_cases hi : i < z.length
    · rw [List.getElem?_range hi]
      simp only [Option.map_some, Function.comp_apply]
      rw [Nat.mul_comm, Nat.mul_add_mod, Nat.mod_eq_of_lt hi]
      simp [hi]
    · rw [List.getElem?_eq_none (by simpa using hi), List.getElem?_eq_none (by omega)]; rfl
theorem qep {t : TypeId} {z : List Value} (hz : qc1 P t = some z) : ∃ zz : Value, (∀ w : World, (zeroValue t).run P w = .ok zz w) ∧ zz.cells = z.toArray := by
  unfold qc1 at hz
  simp only [Option.map_eq_some_iff, Option.bind_eq_some_iff] at hz
  obtain ⟨zz, ⟨i, hi, hzi⟩, rfl⟩ := hz
  exact ⟨zz, fun w => by simp [zeroValue, q1y hi, hzi], by simp⟩
theorem qfp (vs : List Value) (n : Nat) (hn : n = vs.length) (e : TypeId) : q91 (.own 0 vs n) (some (.cells vs.toArray e (0, 0))) := by
  subst hn; exact qdj vs e
theorem qft (ha : qdn ψ ρ ev) {o : Oper} {ao : AOp} {blk : Blk} {mk : Nat → Value} (hc : q8b P ψ o.op = some ao) (hv : z6m ρ ao = some (blk, mk)) :
    ∃ obj, (execOp ev o).run P w = .ok (.value (mk w.heap.size)) { w with heap := w.heap.push obj } ∧ q91 blk (some obj) := by
  have tells : ∀ {s : Sem Value} {v : Value} {w' : World}, s.run P w = .ok v w' → (do pure (Next.value (← s)) : Sem Next).run P w = .ok (.value v) w' := by
    intro s v w' h; simp [h]
  unfold q8b at hc
  unfold execOp
  cases hop : o.op <;> rw [hop] at hc <;> simp only at hc ⊢
  case alloc t =>
    simp only [Option.map_eq_some_iff] at hc
    obtain ⟨z, hz, rfl⟩ := hc
    simp only [z6m, Option.some.injEq, Prod.mk.injEq] at hv
    obtain ⟨rfl, rfl⟩ := hv
    obtain ⟨zz, hzz, q09⟩ := qep hz
    refine ⟨.cells z.toArray t, tells ?_, qdj z t⟩
    simp only [Instr.alloc, Sem.run_bind, hzz, Result.andThen_ok, newVar, newRow, run_newObj, Sem.run_pure, q09]
  case box t x =>
    simp only [Option.map_eq_some_iff] at hc
    obtain ⟨y, hy, rfl⟩ := hc
    simp only [z6m] at hv
    split at hv
    · rename_i v hxv
      simp only [Option.some.injEq, Prod.mk.injEq] at hv
      obtain ⟨rfl, rfl⟩ := hv
      refine ⟨.cells v.cells t, tells ?_, ?_⟩
      · rw [ha x y v hy hxv]
        simp only [Instr.box, Sem.run_bind, Result.andThen_ok, newVar, newRow, run_newObj, Sem.run_pure]
      · have := qfp v.cells.toList v.cells.size (by simp) t
        simpa using this
    · cases hv
  case buildSlice t n parts =>
    split at hc
    · rename_i e h1
      split at hc
      · rename_i i z hi hz
        split at hc
        · rename_i hcond
          simp only [Bool.and_eq_true, beq_iff_eq, decide_eq_true_eq] at hcond
          obtain ⟨⟨hsz, hpos⟩, hbig⟩ := hcond
          simp only [Option.map_eq_some_iff] at hc
          obtain ⟨ps, hps, rfl⟩ := hc
          simp only [z6m] at hv
          split at hv
          · rename_i vs hvs
            split at hv
            · rename_i l hl
              simp only [Option.some.injEq, Prod.mk.injEq] at hv
              obtain ⟨rfl, rfl⟩ := hv
              obtain ⟨zz, hzz, q09⟩ := qep hz
              have hS : q2i P e = some i.size := by simp [q2i, hi]
              refine ⟨.cells l.toArray e, tells ?_, qdj l e⟩
              have hparts : (parts.map fun (i, x) => (i, ev x)).toList = parts.toList.map fun (i, x) => (i, ev x) := by simp
              have hfill := qa4 ha hps hvs hl
              have hle : ¬ (n * i.size > 2 ^ 24) := by omega
              by_cases hz0 : n * i.size = 0
              · have hn0 : n = 0 := by
                  rcases Nat.mul_eq_zero.1 hz0 with h | h
                  · exact h
                  · omega
                subst hn0
                simp only [List.replicate_zero, List.flatten_nil] at hfill
                simp only [Instr.buildSlice, Sem.run_bind, run_underlying h1, Result.andThen_ok, q0p hS, Sem.run_ite, hle, if_false, hz0, if_true, Sem.run_pure, hparts, hz0]
                have hr0 : (Array.map (fun (x : Nat) => (#[] : Array Value)[x % (#[] : Array Value).size]!) (Array.range 0)) = ([] : List Value).toArray := by simp
                rw [hr0, hfill]
                simp [newRow, run_newObj]
              · simp only [Instr.buildSlice, Sem.run_bind, run_underlying h1, Result.andThen_ok, q0p hS, Sem.run_ite, hle, if_false, hz0, Sem.run_pure, hzz, hparts, q09]
                have hr0 : (Array.map (fun (x : Nat) => z.toArray[x % z.toArray.size]!) (Array.range (n * i.size))) = (List.flatten (List.replicate n z)).toArray := by
                  apply Array.ext'
                  rw [hsz, qey z (by omega) n]
                rw [hr0, hfill]
                simp [newRow, run_newObj]
            · cases hv
          · cases hv
        · cases hc
      · cases hc
    · cases hc
  case makeSlice t l c =>
    split at hc
    · rename_i l' c' e hl hcc h1
      split at hc
      · rename_i i z hi hz
        split at hc
        · rename_i hcond
          simp only [Bool.and_eq_true, beq_iff_eq, decide_eq_true_eq] at hcond
          obtain ⟨hsz, hpos⟩ := hcond
          simp only [Option.some.injEq] at hc; subst hc
          simp only [z6m] at hv
          split at hv
          · rename_i kl lv kc cv hlv hcv
            split at hv
            · rename_i hb
              obtain ⟨b1, b2, b3, b4⟩ := hb
              simp only [Option.some.injEq, Prod.mk.injEq] at hv
              obtain ⟨rfl, rfl⟩ := hv
              obtain ⟨zz, hzz, q09⟩ := qep hz
              have hS : q2i P e = some i.size := by simp [q2i, hi]
              refine ⟨.cells (List.flatten (List.replicate cv.toNat z)).toArray e, tells ?_, qfp _ _ (by simp) e⟩
              have wl : IntKind.i64.wrap lv = lv := by simp [IntKind.wrap, IntKind.bits, IntKind.signed]; omega
              have wc : IntKind.i64.wrap cv = cv := by simp [IntKind.wrap, IntKind.bits, IntKind.signed]; omega
              rw [ha l l' _ hl hlv, ha c c' _ hcc hcv]
              have t1 : (decide (cv < 0) || decide ((i.bytes : Int) * cv > 2 ^ 48)) = false := by
                simp only [Bool.or_eq_false_iff, decide_eq_false_iff_not]
                constructor
                · omega
                · have : (2 : Int) ^ 48 = 281474976710656 := by decide
                  omega
              have t2 : decide (lv < 0) = false := by simp; omega
              have t3 : decide (lv > cv) = false := by simp; omega
              simp only [Instr.makeSlice, Sem.run_bind, run_underlying h1, Result.andThen_ok, asInt, asIntOf, Sem.run_pure, q1y hi, wl, wc, t1, t2, t3, Bool.or_self, Bool.false_eq_true, if_false, Sem.run_ite, run_askRoom, q0p hS]
              by_cases hz0 : cv.toNat * i.size = 0
              · have hn0 : cv.toNat = 0 := by
                  rcases Nat.mul_eq_zero.1 hz0 with h | h
                  · exact h
                  · omega
                simp only [hz0, if_true, Sem.run_pure, Result.andThen_ok, hn0]
                simp only [newRow, Sem.run_bind, run_newObj, Result.andThen_ok, Sem.run_pure, List.replicate_zero, List.flatten_nil, Nat.zero_mul, if_true]
                have hr0 : (Array.map (fun (x : Nat) => (#[] : Array Value)[x % (#[] : Array Value).size]!) (Array.range 0)) = ([] : List Value).toArray := by simp
                rw [hr0]
              · simp only [hz0, if_false, Sem.run_bind, hzz, Result.andThen_ok, Sem.run_pure, q09]
                have hr0 : (Array.map (fun (x : Nat) => z.toArray[x % z.toArray.size]!) (Array.range (cv.toNat * i.size))) = (List.flatten (List.replicate cv.toNat z)).toArray := by
                  apply Array.ext'
                  rw [hsz, qey z (by omega) cv.toNat]
                rw [hr0]
                simp [newRow, run_newObj]
            · cases hv
          · cases hv
        · cases hc
      · cases hc
    · cases hc
  case makeMap t r =>
    split at hc
    · rename_i k e h1 h2
      simp only [Option.some.injEq] at hc; subst hc
      simp only [z6m, Option.some.injEq, Prod.mk.injEq] at hv
      obtain ⟨rfl, rfl⟩ := hv
      refine ⟨.map #[] 0, tells ?_, rfl, rfl⟩
      simp [Instr.makeMap, run_newObj]
    · cases hc
  case call c =>
    exfalso
    unfold qe4 at hc
    repeat' (first | (cases hc; done) | (split at hc))
    all_goals first
      | (simp only [Option.some.injEq] at hc; subst hc; simp [z6m] at hv; done)
      | (simp only [Option.map_eq_some_iff] at hc; obtain ⟨_, _, rfl⟩ := hc; simp [z6m] at hv; done)
  case binOp =>
    exfalso
    unfold eqOp at hc
    repeat' (first | (cases hc; done) | (split at hc))
    all_goals first
      | (simp only [Option.some.injEq] at hc; subst hc; simp [z6m] at hv; done)
      | (simp only [Option.map_eq_some_iff] at hc; obtain ⟨_, _, rfl⟩ := hc; simp [z6m] at hv; done)
  case makeFunc fn first captured =>
    exfalso
    cases fn <;> simp only at hc <;> try (cases hc; done)
    split at hc
    · simp only [Option.some.injEq] at hc; subst hc; simp [z6m] at hv
    · cases hc
  case build =>
    exfalso
    repeat' (first | (cases hc; done) | (split at hc))
    all_goals
      simp only [Option.map_eq_some_iff] at hc
      obtain ⟨_, _, hc⟩ := hc
      first
        | (subst hc; simp [z6m] at hv; done)
        | (split at hc <;> (subst hc; simp [z6m] at hv; done))
  all_goals
    exfalso
    repeat' (first | (cases hc; done) | (split at hc))
    all_goals first
      | (simp only [Option.some.injEq] at hc; subst hc; simp [z6m] at hv; done)
      | (simp only [Option.map_eq_some_iff] at hc; obtain ⟨_, _, rfl⟩ := hc; simp [z6m] at hv; done)
end
end Go.Bb
