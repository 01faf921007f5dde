/- Drawn orders, part 3: all orders come to the one that is walked. -/
import Derived.Test.YtgoifophjcbpaaaBbQ
namespace Go.Bb
set_option linter.unusedSimpArgs false
set_option linter.unusedVariables false

theorem wpOp_out {P : Program} {ops : Array Oper} {i : Nat} {next : Act → World → Prop} {a : Act} {w : World} (p : wpOp P ops (fun _ _ _ => False) i next a w) : ∃ a' w', next a' w' := by
  unfold wpOp at p
  split at p
  · exact ⟨_, _, p⟩
  · rename_i o ho
    split at p
    · rcases p with p | ⟨_, _, _, q⟩
      · unfold Oper.wp at p
        generalize (execOp a.eval o).run P w = r at p
        cases r with
        | ok n w' =>
          cases n <;> simp only [Oper.upon] at p <;> try (exact ⟨_, _, p⟩)
          case enter f args =>
            obtain ⟨e, w'', fr, hR, _⟩ := p []
            cases e with
            | returned v => exact ⟨_, _, hR⟩
            | panicked c => exact hR.elim
            | outgrown => obtain ⟨_, _, q⟩ := hR; exact q.elim
          case row row args =>
            obtain ⟨v, w'', hR, _⟩ := p default []
            exact ⟨_, _, hR⟩
        | halt x w' => cases x <;> simp only [Oper.upon] at p
      · exact q.elim
    · exact ⟨_, _, p⟩

section
variable {E : Env} {N : Nat}

/-- What the ones that are made already owe. -/
def Lates (l : List (Nat × Blk)) (h : Heap) (w : World) (B : Nat) : Prop :=
  (∀ x ∈ l, h x.1 = none ∧ BlkSat x.2 w.heap[x.1]? ∧ B ≤ x.1 ∧ x.1 < w.heap.size) ∧ (l.map (·.1)).Nodup

theorem Lates.fr {l : List (Nat × Blk)} {h h' : Heap} {w w' : World} {B : Nat} (p : Lates l h w B) (f : Fr h h' w w') : Lates l h' w' B := by
  refine ⟨fun x hx => ?_, p.2⟩
  obtain ⟨h1, h2, h3, h4⟩ := p.1 x hx
  refine ⟨?_, by rw [f.keep x.1 h4 (.inl h1)]; exact h2, h3, Nat.lt_of_lt_of_le h4 f.size⟩
  cases e : h' x.1 with
  | none => rfl
  | some y => exact absurd (f.fresh x.1 h1 (by simp [e])) (by omega)

theorem sat_late {h : Heap} {w : World} (s : Sat h w) {b : Nat} {blk : Blk} (hx : BlkSat blk w.heap[b]?) : Sat (h.set b blk) w :=
  sat_set s hx fun _ _ _ => rfl

theorem Lates.tail {x : Nat × Blk} {l : List (Nat × Blk)} {h : Heap} {w : World} {B : Nat} (p : Lates (x :: l) h w B) : Lates l (h.set x.1 x.2) w B := by
  have hn := p.2
  simp only [List.map_cons, List.nodup_cons] at hn
  refine ⟨fun y hy => ?_, hn.2⟩
  obtain ⟨h1, h2⟩ := p.1 y (by simp [hy])
  refine ⟨?_, h2⟩
  unfold Heap.set
  rw [if_neg]
  · exact h1
  · intro e
    exact hn.1 (List.mem_map.2 ⟨y, hy, e⟩)

/-- The one that stands ahead is done: the model's step. -/
theorem exec_one {o : DOper} {ops : Array Oper} {t : T} {h hb : Heap} {hist : List Heap} {R : T → Heap → Heap → List Heap → Prop} {a : Act} {w : World} (hc : compOper E.P E.ψ N ops o.ix = some o.a)
    (p : oneD E o t h hb hist R) (ht : Tok N t a) (hs : Sat h w) (hsb : Sat hb w) {next : Act → World → Prop} {Q' : Exit → Act → World → Prop}
    (hn : ∀ u h' hb' hist' w' a', Tok N (tput t o.dst u) a' → Sat h' w' → Sat hb' w' → Fr h h' w w' →
      ((h' = h ∧ hb' = hb ∧ hist' = hist) ∨ (∃ b blk, h' = h.set b blk ∧ hb' = hb ∧ hist' = hist) ∨ (hb' = h' ∧ hist' = hb :: hist ∧ o.op.isW = true) ∨ (h' = h ∧ hb' = hb ∧ hist' = hb :: hist ∧ o.op.isW = true)) →
      R (tput t o.dst u) h' hb' hist' → next a' w') : wpOp E.P ops Q' o.ix next a w := by
  obtain ⟨o0, ho, hd, hdN, hop, hg⟩ := compOper_spec hc
  unfold wpOp
  rw [ho]
  simp only
  have hd' : o.dst = o0.dst := hd
  have hput : ∀ v, Tok N (tput t o.dst v) (a.put o0.dst v) := fun v => by rw [hd']; exact ht.put hdN v
  have hop' : o.op = .bad ∨ compOp E.P E.ψ o0.op = some o.op := hop
  have go : goD E o t h hb hist R → o0.wp E.P a w next Q' := by
    intro p
    unfold goD at p
    by_cases hw : o.op.isW = true
    · rw [if_pos hw] at p
      rcases hop' with hbad | hco
      · rw [hbad] at hw; cases hw
      · exact step_sound hs ht.agree hco p fun v h' w' hs' hf hk => hn v h' h' _ w' _ (hput v) hs' hs' hf (.inr (.inr (.inl ⟨rfl, rfl, hw⟩))) hk
    · rw [if_neg hw] at p
      by_cases hA : o.op.isA = true
      · rw [if_pos hA] at p
        rcases hop' with hbad | hco
        · rw [hbad] at hA; cases hA
        · split at p
          · rename_i blk mk hv
            obtain ⟨obj, hr, hbs⟩ := alloc_sound (P := E.P) (w := w) ht.agree hco hv
            refine wp_value hr (hn _ _ _ _ _ _ (hput _) (sat_push hs hbs) ?_ (fr_push hs blk obj) (.inr (.inl ⟨_, _, rfl, rfl, rfl⟩)) (p _ (hs.none_of_ge (Nat.le_refl _))))
            intro c y hy
            have hlt := hsb.lt hy
            rw [Array.getElem?_push, if_neg (by omega)]
            exact hsb c y hy
          · exact p.elim
      · rw [if_neg hA] at p
        split at p
        · rename_i v hv
          rcases hop' with hbad | hco
          · rw [hbad] at hv; simp [pureV] at hv
          · exact wp_value (quiet_sound (P := E.P) hsb ht.agree E.fid_ok (fun f => rfl) hco hv) (hn v h hb hist w _ (hput v) hs hsb (Fr.refl _ _) (.inl ⟨rfl, rfl, rfl⟩) p.2)
        · exact p.elim
  rw [oneD_eq] at p
  rcases hg with ⟨g1, g2⟩ | ⟨j, want, g, g1, g2, g3⟩
  · have hg2 : o.guard = none := g2
    simp only [Region.wanted, g1, if_true]
    rcases p with ⟨q1, p⟩ | ⟨q1, p⟩
    · exact .inl (go p)
    · simp [onOf, hg2] at q1
  · have hg2 : o.guard = some (g, want) := g2
    rcases p with ⟨q1, p⟩ | ⟨q1, p⟩
    · simp only [onOf, hg2] at q1
      split at q1
      · rename_i b hb'
        simp only [Option.some.injEq, decide_eq_true_eq] at q1
        have hy := yielded_of ht g3 hb'
        simp only [Region.wanted, g1, hy]
        subst q1
        rw [if_pos (by simp)]
        exact .inl (go p)
      · cases q1
    · simp only [onOf, hg2] at q1
      split at q1
      · rename_i b hb'
        simp only [Option.some.injEq, decide_eq_false_iff_not] at q1
        have hy := yielded_of ht g3 hb'
        simp only [Region.wanted, g1, hy]
        rw [if_neg (by simpa using q1)]
        unfold skipD at p
        by_cases hw : o.op.isW = true
        · rw [if_pos hw] at p
          exact hn undef h hb _ w _ (hput undef) hs hsb (Fr.refl _ _) (.inr (.inr (.inr ⟨rfl, rfl, rfl, hw⟩))) p
        · rw [if_neg hw] at p
          exact hn undef h hb _ w _ (hput undef) hs hsb (Fr.refl _ _) (.inl ⟨rfl, rfl, rfl⟩) p
      · cases q1

/-- What is asked of one that stands further back holds already. -/
theorem facts {o : DOper} (hW : o.op.isW = false) {ops : Array Oper} {post : List Pd} {K : T → Heap → Prop} {hb0 : Heap} (t0 : T) : ∀ (pre : List Pd), (∀ p ∈ opsOf pre, apartA p.a o.a = true) → (∀ p ∈ opsOf pre, compOper E.P E.ψ N ops p.ix = some p.a) →
    ∀ (t : T) (h hb : Heap) (hist : List Heap) (k : Nat) (a : Act) (w : World) (B : Nat), (∀ i ∈ o.a.looks, t i = t0 i) → (hb0 = hb ∨ hb0 ∈ hist.take k) → k + wCount pre ≤ o.back ∨ o.op.isA = true → Tok N t a → Sat h w → Sat hb w → Lates (latesOf pre) h w B →
    runP E (pre ++ .op o :: post) K t h hb hist →
    onOf o t0 = some false ∨ (onOf o t0 = some true ∧ (o.op.isA = false → ∃ v, pureV E.fid (oev E.fid t0) hb0 o.op = some v) ∧ (o.op.isA = true → ∃ x, allocV (oev E.fid t0) o.op = some x))
  | [], _, _, t, h, hb, hist, k, a, w, B, ht, hh, hk, tok, hs, hsb, hl, p => by
    simp only [List.nil_append, runP] at p
    have e1 : onOf o t = onOf o t0 := by
      unfold onOf
      split
      · rfl
      · rename_i g want hg
        rw [ht g (by simp [DOper.a, AOper.looks, hg])]
    have e2 : ∀ i ∈ o.op.looks, t i = t0 i := fun i hi => ht i (by simp [DOper.a, AOper.looks, hi])
    rw [oneD_eq] at p
    rcases p with ⟨g1, p⟩ | ⟨g1, p⟩
    · refine .inr ⟨by rw [← e1]; exact g1, fun hA => ?_, fun hA => ?_⟩
      · unfold goD at p
        rw [if_neg (by simp [hW]), if_neg (by simp [hA])] at p
        split at p
        · rename_i u hu
          rcases hh with hh | hh
          · subst hh
            exact ⟨u, by rw [← pureV_congr e2]; exact hu⟩
          · have hk' : k ≤ o.back := by
              rcases hk with hk | hk
              · simp [wCount] at hk; exact hk
              · rw [hA] at hk; cases hk
            have hm : hb0 ∈ hist.take o.back := by
              have : hist.take k = (hist.take o.back).take k := by rw [List.take_take]; congr 1; omega
              rw [this] at hh; exact List.mem_of_mem_take hh
            exact ⟨u, by rw [← pureV_congr e2]; exact p.1 hb0 hm⟩
        · exact p.elim
      · unfold goD at p
        rw [if_neg (by simp [hW]), if_pos hA] at p
        split at p
        · rename_i blk mk hv
          exact ⟨_, by rw [← allocV_congr e2]; exact hv⟩
        · exact p.elim
    · exact .inl (by rw [← e1]; exact g1)
  | .late b blk :: pre, hp, hc, t, h, hb, hist, k, a, w, B, ht, hh, hk, tok, hs, hsb, hl, p => by
    simp only [List.cons_append, runP] at p
    have h1 := hl.1 (b, blk) (by simp [latesOf])
    exact facts hW t0 pre (fun q hq => hp q (by simpa [opsOf] using hq)) (fun q hq => hc q (by simpa [opsOf] using hq)) t _ hb hist k a w B ht hh (by simpa [wCount] using hk) tok (sat_late hs h1.2.1) hsb (Lates.tail hl) (p h1.1)
  | .op q :: pre, hp, hc, t, h, hb, hist, k, a, w, B, ht, hh, hk, tok, hs, hsb, hl, p => by
    simp only [List.cons_append, runP] at p
    have hap := looks_off (hp q (by simp [opsOf]))
    have hx := exec_one (Q' := fun _ _ _ => False) (next := fun _ _ => onOf o t0 = some false ∨ (onOf o t0 = some true ∧ (o.op.isA = false → ∃ v, pureV E.fid (oev E.fid t0) hb0 o.op = some v) ∧ (o.op.isA = true → ∃ x, allocV (oev E.fid t0) o.op = some x)))
      (hc q (by simp [opsOf])) p tok hs hsb (fun u h' hb' hist' w' a' tok' hs' hsb' hf hcase pp => by
        have hwc : wCount (.op q :: pre) = (if q.op.isW = true then 1 else 0) + wCount pre := rfl
        rw [hwc] at hk
        have hlook : ∀ i ∈ o.a.looks, tput t q.dst u i = t0 i := by
          intro i hi
          rw [tput_off fun j hj e => ?_]
          · exact ht i hi
          · subst e; exact (hap.1 j hj).1 hi
        have hl' : Lates (latesOf pre) h' w' B := Lates.fr hl hf
        have rest : ∀ k', (hb0 = hb' ∨ hb0 ∈ hist'.take k') → (k' + wCount pre ≤ o.back ∨ o.op.isA = true) → _ := fun k' g1 g2 =>
          facts hW t0 pre (fun q hq => hp q (by simp [opsOf, hq])) (fun q hq => hc q (by simp [opsOf, hq])) _ h' hb' hist' k' a' w' B hlook g1 g2 tok' hs' hsb' hl' pp
        rcases hcase with ⟨rfl, rfl, rfl⟩ | ⟨b, blk, rfl, rfl, rfl⟩ | ⟨rfl, rfl, hw⟩ | ⟨rfl, rfl, rfl, hw⟩
        · exact rest k hh (hk.imp (by omega) id)
        · exact rest k hh (hk.imp (by omega) id)
        · rw [if_pos hw] at hk
          refine rest (k + 1) ?_ (hk.imp (by omega) id)
          right
          rcases hh with hh | hh
          · subst hh; simp
          · simp only [List.take_succ_cons, List.mem_cons]; exact .inr hh
        · rw [if_pos hw] at hk
          refine rest (k + 1) ?_ (hk.imp (by omega) id)
          rcases hh with hh | hh
          · exact .inl hh
          · right; simp only [List.take_succ_cons, List.mem_cons]; exact .inr hh)
    obtain ⟨_, _, r⟩ := wpOp_out hx
    exact r

end
end Go.Bb
