/- Drawn orders, part 5: the rule. And: code without loops in one word. -/
import Derived.Test.YtgoifophjcbpaaaBbS
namespace Go.Bb
set_option linter.unusedSimpArgs false
set_option linter.unusedVariables false

section
variable {E : Env} {N : Nat}

def toD (x : Nat × Nat × AOper) : DOper := { ix := x.1, dst := x.2.2.dst, op := x.2.2.op, guard := x.2.2.guard, back := x.2.1 }

theorem compDraw_spec {P : Program} {ψ : FuncId → Option Nat} {ops : Array Oper} : ∀ (order : List (Nat × Nat)) (l : List (Nat × Nat × AOper)), compDraw P ψ N ops order = some l → ∀ x ∈ l, compOper P ψ N ops x.1 = some x.2.2
  | [], l, h => by simp only [compDraw, Option.some.injEq] at h; subst h; simp
  | (i, b) :: r, l, h => by
    simp only [compDraw] at h
    split at h
    · rename_i o os h1 h2
      simp only [Option.some.injEq] at h; subst h
      intro x hx
      simp only [List.mem_cons] at hx
      rcases hx with rfl | hx
      · exact h1
      · exact compDraw_spec r os h2 x hx
    · cases h

theorem distinct_nodup : ∀ (l : List Nat), distinct l = true → l.Nodup
  | [], _ => List.nodup_nil
  | x :: l, h => by
    simp only [distinct, Bool.and_eq_true, Bool.not_eq_true', List.contains_eq_mem, decide_eq_false_iff_not] at h
    exact List.nodup_cons.2 ⟨h.1, distinct_nodup l h.2⟩

theorem pairsOk_spec {bf : Nat → Nat → Bool} : ∀ (l pre : List (Nat × Nat × AOper)), pairsOk bf pre l = true → ∀ l1 x l2, l = l1 ++ x :: l2 →
    (((pre ++ l1).filter fun y => !(bf x.1 y.1)).all fun y => apartA y.2.2 x.2.2) = true ∧
    (if x.2.2.op.isW then ((pre ++ l1).filter fun y => !(bf x.1 y.1)).isEmpty else x.2.2.op.isA || decide ((((pre ++ l1).filter fun y => !(bf x.1 y.1)).filter fun y => y.2.2.op.isW).length ≤ x.2.1)) = true
  | [], pre, _, l1, x, l2, e => by simp at e
  | y :: l, pre, h, [], x, l2, e => by
    simp only [List.nil_append, List.cons.injEq] at e
    obtain ⟨rfl, rfl⟩ := e
    simp only [pairsOk, Bool.and_eq_true] at h
    rw [List.append_nil]
    exact ⟨h.1.1, h.1.2⟩
  | y :: l, pre, h, z :: l1, x, l2, e => by
    simp only [List.cons_append, List.cons.injEq] at e
    obtain ⟨rfl, rfl⟩ := e
    simp only [pairsOk, Bool.and_eq_true] at h
    have := pairsOk_spec _ _ h.2 l1 x l2 rfl
    simpa [List.append_assoc] using this

theorem edgesOk_spec {ops : Array Oper} : ∀ (l pre : List Nat), edgesOk ops pre l = true → ∀ l1 i l2, l = l1 ++ i :: l2 → ∃ o, ops[i]? = some o ∧ ∀ e ∈ o.after.toList, Region.binds .any e = true → e.on ∈ pre ++ l1
  | [], pre, _, l1, i, l2, e => by simp at e
  | j :: l, pre, h, [], i, l2, e => by
    simp only [List.nil_append, List.cons.injEq] at e
    obtain ⟨rfl, rfl⟩ := e
    simp only [edgesOk, Bool.and_eq_true] at h
    have h1 := h.1
    split at h1
    · rename_i o ho
      refine ⟨o, ho, fun e he hb => ?_⟩
      have := List.all_eq_true.1 h1 e he
      simp only [hb, Bool.not_true, Bool.false_or, List.contains_eq_mem, decide_eq_true_eq] at this
      simpa using this
    · cases h1
  | j :: l, pre, h, k :: l1, i, l2, e => by
    simp only [List.cons_append, List.cons.injEq] at e
    obtain ⟨rfl, rfl⟩ := e
    simp only [edgesOk, Bool.and_eq_true] at h
    obtain ⟨o, ho, h2⟩ := edgesOk_spec _ _ h.2 l1 i l2 rfl
    exact ⟨o, ho, fun e he hb => by have := h2 e he hb; simpa [List.append_assoc] using this⟩

theorem fold_bits {A : Array Nat} : ∀ (l : List Edge) (s j : Nat), (l.foldl (fun s e => if Region.binds .any e then s ||| 2 ^ e.on ||| A.getD e.on 0 else s) s).testBit j = true → s.testBit j = true ∨ ∃ e ∈ l, Region.binds .any e = true ∧ (j = e.on ∨ (A.getD e.on 0).testBit j = true)
  | [], s, j, h => .inl h
  | e :: l, s, j, h => by
    simp only [List.foldl_cons] at h
    rcases fold_bits l _ j h with h1 | ⟨e', he', h2⟩
    · split at h1
      · rename_i hb
        simp only [Nat.testBit_or, Bool.or_eq_true, Nat.testBit_two_pow] at h1
        rcases h1 with (h1 | h1) | h1
        · exact .inl h1
        · exact .inr ⟨e, by simp, hb, .inl (by simpa [eq_comm] using h1)⟩
        · exact .inr ⟨e, by simp, hb, .inr h1⟩
      · exact .inl h1
    · exact .inr ⟨e', by simp [he'], h2⟩

theorem orderOk_of {ops : Array Oper} {order : List (Nat × Nat)} {l : List (Nat × Nat × AOper)} (hc : compDraw E.P E.ψ N ops order = some l) (hd : drawOk ops l = true) :
    OrderOk E N ops (l.map toD) fun i j => ((anc ops).getD i 0).testBit j := by
  unfold drawOk at hd
  simp only [Bool.and_eq_true] at hd
  obtain ⟨⟨⟨⟨⟨⟨h1, h2⟩, h3⟩, h4⟩, h5⟩, h6⟩, h7⟩ := hd
  refine ⟨?_, ?_, ?_, ?_, ?_, ?_⟩
  · intro o ho
    obtain ⟨x, hx, rfl⟩ := List.mem_map.1 ho
    exact ⟨compDraw_spec order l hc x hx, by simpa [toD] using List.all_eq_true.1 h6 x hx⟩
  · intro l1 o l2 e
    obtain ⟨m1, m2, rfl, rfl, e2⟩ := List.map_eq_append_iff.1 e
    obtain ⟨x, m3, rfl, rfl, rfl⟩ := List.map_eq_cons_iff.1 e2
    obtain ⟨p1, p2⟩ := pairsOk_spec _ _ h2 m1 x m3 rfl
    simp only [List.nil_append] at p1 p2
    refine ⟨?_, ?_, ?_⟩
    · intro p hp hb
      obtain ⟨y, hy, rfl⟩ := List.mem_map.1 hp
      refine List.all_eq_true.1 p1 y (List.mem_filter.2 ⟨hy, ?_⟩)
      have : ((anc ops).getD x.1 0).testBit y.1 = false := hb
      rw [this]; rfl
    · intro hW p hp
      obtain ⟨y, hy, rfl⟩ := List.mem_map.1 hp
      have hW' : x.2.2.op.isW = true := hW
      rw [if_pos hW'] at p2
      have := List.filter_eq_nil_iff.1 (List.isEmpty_iff.1 p2) y hy
      simpa [toD] using this
    · intro hW
      have hW' : x.2.2.op.isW = false := hW
      rw [if_neg (by simp [hW'])] at p2
      simp only [Bool.or_eq_true, decide_eq_true_eq] at p2
      rcases p2 with p2 | p2
      · exact .inl p2
      · right
        have : ((m1.map toD).filter fun p => !((anc ops).getD (toD x).ix 0).testBit p.ix).filter (fun p => p.op.isW) = ((m1.filter fun y => !((anc ops).getD x.1 0).testBit y.1).filter fun y => y.2.2.op.isW).map toD := by
          rw [List.filter_map, List.filter_map]; rfl
        rw [this, List.length_map]
        exact p2
  · intro l1 o l2 e oo ho e' he' hb
    obtain ⟨m1, m2, rfl, rfl, e2⟩ := List.map_eq_append_iff.1 e
    obtain ⟨x, m3, rfl, rfl, rfl⟩ := List.map_eq_cons_iff.1 e2
    obtain ⟨o2, ho2, h⟩ := edgesOk_spec _ _ h3 (m1.map (·.1)) x.1 (m3.map (·.1)) (by simp)
    have : (toD x).ix = x.1 := rfl
    rw [this, ho2] at ho
    simp only [Option.some.injEq] at ho; subst ho
    have := h e' he' hb
    simp only [List.nil_append, List.mem_map] at this
    obtain ⟨y, hy, hye⟩ := this
    exact ⟨toD y, List.mem_map.2 ⟨y, hy, rfl⟩, hye⟩
  · intro i hi
    have := List.all_eq_true.1 h4 i (by simpa using hi)
    simp only [List.contains_eq_mem, decide_eq_true_eq, List.mem_map] at this
    obtain ⟨x, hx, rfl⟩ := this
    exact ⟨toD x, List.mem_map.2 ⟨x, hx, rfl⟩, rfl⟩
  · have := distinct_nodup _ h5
    simpa [List.map_map, Function.comp_def, toD] using this
  · intro i oo ho j hj
    have hlt : i < ops.size := by
      rcases Nat.lt_or_ge i ops.size with g | g
      · exact g
      · rw [Array.getElem?_eq_none g] at ho; cases ho
    have := List.all_eq_true.1 h1 i (by simpa using hlt)
    rw [ho] at this
    simp only [Bool.and_eq_true, beq_iff_eq] at this
    obtain ⟨t1, t2⟩ := this
    have hj' : ((anc ops).getD i 0).testBit j = true := hj
    rw [t2] at hj'
    rcases fold_bits _ _ _ hj' with h | ⟨e, he, hb, hcase⟩
    · simp at h
    · refine ⟨e, he, hb, ?_, hcase⟩
      have := List.all_eq_true.1 t1 e he
      simpa [hb] using this

theorem aw_dops {os : List DOper} {keep : List Nat} {Q : AExit → T → Heap → Prop} {t : T} {h : Heap} (p : runD E os (fun t h => Q .normal (tkeep keep t) h) t h h []) : AW E N (.dops os keep) Q t h := by
  intro H c hc a w ht hs
  cases c <;> simp only [compC] at hc <;> try (cases hc; done)
  case region id ops draw =>
    split at hc
    · cases hc
    · rename_i x keep' order hfind
      split at hc
      · rename_i hdraw
        split at hc
        · rename_i hm
          split at hc
          · rename_i l hl
            split at hc
            · rename_i hok
              simp only [Option.some.injEq, ACode.dops.injEq] at hc
              obtain ⟨hos, rfl⟩ := hc
              have hos' : os = l.map toD := by rw [← hos]; rfl
              subst hos'
              subst hdraw
              have ok := orderOk_of (E := E) hl hok
              refine wp_region_any hm ?_
              refine wpAny_inv ok (K := fun t h => Q .normal (tkeep keep' t) h) (h0 := h) (w0 := w) ?_ ops.size _ a _ ((l.map toD).map .op) t h h [] ?_ ?_
              · intro t' h' a' w' ht' hs' hf hk
                exact ⟨.normal, _, h', rfl, ht'.keep _, hs', hf, hk⟩
              · have hops : ∀ l : List DOper, opsOf (l.map .op) = l := by
                  intro l; induction l with
                  | nil => rfl
                  | cons x l ih => simp [opsOf, ih]
                have hlates : ∀ l : List DOper, latesOf (l.map .op) = [] := by
                  intro l; induction l with
                  | nil => rfl
                  | cons x l ih => simp [latesOf, ih]
                refine ⟨runP_of_runD _ _ _ _ _ _ p, ht, Sat.of_heap (w := w) rfl hs, Sat.of_heap (w := w) rfl hs, ?_, ?_, Fr.of_heap rfl rfl rfl rfl, by simp, ?_⟩
                · rw [hlates]; exact ⟨by simp, by simp⟩
                · rw [hops]
                  symm
                  rw [List.filter_eq_self]
                  intro o ho
                  have := (ok.comp o ho).2
                  simp [Array.getD_eq_getD_getElem?, this]
                · intro i oo _ hl'
                  simp only [Array.getD_eq_getD_getElem?, Array.getElem?_replicate] at hl'
                  split at hl' <;> simp at hl'
              · have hops : ∀ l : List DOper, (opsOf (l.map .op)).length = l.length := by
                  intro l; induction l with
                  | nil => rfl
                  | cons x l ih => simp [opsOf, ih]
                rw [hops, List.length_map]
                unfold drawOk at hok
                simp only [Bool.and_eq_true, decide_eq_true_eq] at hok
                exact hok.2
            · cases hc
          · cases hc
        · cases hc
      · simp only [Option.map_eq_some_iff] at hc
        obtain ⟨_, _, hc⟩ := hc
        cases hc
  all_goals (repeat' (first | (cases hc; done) | (split at hc)))
  all_goals (simp only [Option.map_eq_some_iff] at hc; obtain ⟨_, _, hc⟩ := hc; cases hc)

end
end Go.Bb
