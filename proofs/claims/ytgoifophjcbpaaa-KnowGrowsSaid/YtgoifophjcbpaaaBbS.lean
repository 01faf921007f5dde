/- Drawn orders, part 4: the whole region. -/
import Derived.Test.YtgoifophjcbpaaaBbR
namespace Go.Bb
set_option linter.unusedSimpArgs false
set_option linter.unusedVariables false

section
variable {E : Env} {N : Nat}

theorem opsOf_append : ∀ (a b : List Pd), opsOf (a ++ b) = opsOf a ++ opsOf b
  | [], b => rfl
  | .op o :: a, b => by simp [opsOf, opsOf_append a b]
  | .late _ _ :: a, b => by simp [opsOf, opsOf_append a b]

theorem latesOf_append : ∀ (a b : List Pd), latesOf (a ++ b) = latesOf a ++ latesOf b
  | [], b => rfl
  | .op o :: a, b => by simp [latesOf, latesOf_append a b]
  | .late _ _ :: a, b => by simp [latesOf, latesOf_append a b]

theorem opsOf_split : ∀ (κ : List Pd) (A B : List DOper) (o : DOper), opsOf κ = A ++ o :: B → ∃ pre post, κ = pre ++ .op o :: post ∧ opsOf pre = A ∧ opsOf post = B
  | [], A, B, o, h => by simp [opsOf] at h
  | .late b x :: κ, A, B, o, h => by
    obtain ⟨pre, post, h1, h2, h3⟩ := opsOf_split κ A B o (by simpa [opsOf] using h)
    exact ⟨.late b x :: pre, post, by simp [h1], by simpa [opsOf] using h2, h3⟩
  | .op q :: κ, [], B, o, h => by
    simp only [opsOf, List.nil_append, List.cons.injEq] at h
    obtain ⟨rfl, h⟩ := h
    exact ⟨[], κ, rfl, rfl, h⟩
  | .op q :: κ, x :: A, B, o, h => by
    simp only [opsOf, List.cons_append, List.cons.injEq] at h
    obtain ⟨rfl, h⟩ := h
    obtain ⟨pre, post, h1, h2, h3⟩ := opsOf_split κ A B o h
    exact ⟨.op q :: pre, post, by simp [h1], by simp [opsOf, h2], h3⟩

theorem wCount_eq : ∀ (κ : List Pd), wCount κ = ((opsOf κ).filter fun o => o.op.isW).length
  | [] => rfl
  | .late b x :: κ => by simp [wCount, opsOf, wCount_eq κ]
  | .op o :: κ => by
    simp only [wCount, opsOf, List.filter_cons, wCount_eq κ]
    cases o.op.isW <;> simp [Nat.add_comm]

theorem exec_guard {o : DOper} {ops : Array Oper} {t : T} {a : Act} {w : World} (hc : compOper E.P E.ψ N ops o.ix = some o.a) (ht : Tok N t a) {next : Act → World → Prop} {Q' : Exit → Act → World → Prop} {b : Bool} (hon : onOf o t = some b)
    (hgo : b = true → ∀ o0 : Oper, o.dst = o0.dst → (o.op = .bad ∨ compOp E.P E.ψ o0.op = some o.op) → (∀ v, Tok N (tput t o.dst v) (a.put o0.dst v)) → o0.wp E.P a w next Q')
    (hskip : b = false → ∀ a', Tok N (tput t o.dst undef) a' → next a' w) : wpOp E.P ops Q' o.ix next a w := by
  obtain ⟨o0, ho, hd, hdN, hop, hg⟩ := compOper_spec hc
  unfold wpOp
  rw [ho]
  simp only
  have hd' : o.dst = o0.dst := hd
  have hput : ∀ v, Tok N (tput t o.dst v) (a.put o0.dst v) := fun v => by rw [hd']; exact ht.put hdN v
  rcases hg with ⟨g1, g2⟩ | ⟨j, want, g, g1, g2, g3⟩
  · have hg2 : o.guard = none := g2
    simp only [Region.wanted, g1, if_true]
    simp only [onOf, hg2, Option.some.injEq] at hon
    exact .inl (hgo hon.symm o0 hd' hop hput)
  · have hg2 : o.guard = some (g, want) := g2
    simp only [onOf, hg2] at hon
    split at hon
    · rename_i b' hb'
      have hy := yielded_of ht g3 hb'
      simp only [Region.wanted, g1, hy]
      simp only [Option.some.injEq] at hon
      by_cases e : b' = want
      · subst e
        rw [if_pos (by simp)]
        exact .inl (hgo (by simpa using hon.symm) o0 hd' hop hput)
      · rw [if_neg (by simpa using e)]
        exact hskip (by simpa [e] using hon.symm) _ (hput undef)
    · cases hon

/-- What the check of an order says. -/
structure OrderOk (E : Env) (N : Nat) (ops : Array Oper) (os0 : List DOper) (bit : Nat → Nat → Bool) : Prop where
  comp : ∀ o ∈ os0, compOper E.P E.ψ N ops o.ix = some o.a ∧ o.ix < ops.size
  pairs : ∀ l1 o l2, os0 = l1 ++ o :: l2 → (∀ p ∈ l1, bit o.ix p.ix = false → apartA p.a o.a = true) ∧ (o.op.isW = true → ∀ p ∈ l1, bit o.ix p.ix = true) ∧
      (o.op.isW = false → o.op.isA = true ∨ ((l1.filter fun p => !(bit o.ix p.ix)).filter fun p => p.op.isW).length ≤ o.back)
  edges : ∀ l1 o l2, os0 = l1 ++ o :: l2 → ∀ oo, ops[o.ix]? = some oo → ∀ e ∈ oo.after.toList, Region.binds .any e = true → ∃ p ∈ l1, p.ix = e.on
  all : ∀ i, i < ops.size → ∃ o ∈ os0, o.ix = i
  distinct : (os0.map (·.ix)).Nodup
  bits : ∀ (i : Nat) (oo : Oper), ops[i]? = some oo → ∀ j, bit i j = true → ∃ e ∈ oo.after.toList, Region.binds .any e = true ∧ e.on < i ∧ (j = e.on ∨ bit e.on j = true)

theorem bits_listed {ops : Array Oper} {os0 : List DOper} {bit : Nat → Nat → Bool} (ok : OrderOk E N ops os0 bit) {L : Nat → Bool} (down : ∀ i oo, ops[i]? = some oo → L i = true → ∀ e ∈ oo.after.toList, Region.binds .any e = true → L e.on = true) : ∀ (i : Nat) (oo : Oper), ops[i]? = some oo →
    (∀ e ∈ oo.after.toList, Region.binds .any e = true → L e.on = true) → ∀ j, bit i j = true → L j = true := by
  intro i
  induction i using Nat.strongRecOn with
  | _ i ih =>
    intro oo ho he j hj
    obtain ⟨e, hm, hb, hlt, hcase⟩ := ok.bits i oo ho j hj
    rcases hcase with rfl | hcase
    · exact he e hm hb
    · have hl := he e hm hb
      cases ho2 : ops[e.on]? with
      | none =>
        have : i < ops.size := by
          rcases Nat.lt_or_ge i ops.size with g | g
          · exact g
          · rw [Array.getElem?_eq_none g] at ho; cases ho
        rw [Array.getElem?_eq_getElem (by omega)] at ho2; cases ho2
      | some o2 => exact ih e.on hlt o2 ho2 (down e.on o2 ho2 hl) j hcase

theorem consume_lates {K : T → Heap → Prop} {t : T} {hb : Heap} {hist : List Heap} {w w0 : World} {h0 : Heap} {B : Nat} (hB : B = w0.heap.size) : ∀ (pre : List Pd), opsOf pre = [] → ∀ (h : Heap) (rest : List Pd), Sat h w → Lates (latesOf (pre ++ rest)) h w B → Fr h0 h w0 w → runP E (pre ++ rest) K t h hb hist →
    ∃ h', Sat h' w ∧ Lates (latesOf rest) h' w B ∧ Fr h0 h' w0 w ∧ runP E rest K t h' hb hist
  | [], _, h, rest, hs, hl, hf, p => ⟨h, hs, hl, hf, p⟩
  | .op q :: pre, he, _, _, _, _, _, _ => by simp [opsOf] at he
  | .late b blk :: pre, he, h, rest, hs, hl, hf, p => by
    simp only [List.cons_append, runP] at p
    have h1 := hl.1 (b, blk) (by simp [latesOf])
    refine consume_lates hB pre (by simpa [opsOf] using he) (h.set b blk) rest (sat_late hs h1.2.1) (Lates.tail hl) ?_ (p h1.1)
    refine ⟨hf.os, hf.tape, hf.output, hf.size, hf.keep, ?_, ?_⟩
    · intro c hc hne
      unfold Heap.set at hne
      split at hne
      · rename_i e; rw [e, ← hB]; exact h1.2.2.1
      · exact hf.fresh c hc hne
    · intro c o2 hro
      unfold Heap.set
      have := hf.ro c o2 hro
      split
      · rename_i e; subst e
        have h2 := h1.1
        simp only at h2
        rw [this] at h2; cases h2
      · exact this

theorem sat_pushed {h : Heap} {w : World} (s : Sat h w) (o : Obj) : Sat h { w with heap := w.heap.push o } := by
  intro c y hy
  have hlt := s.lt hy
  rw [Array.getElem?_push, if_neg (by omega)]
  exact s c y hy

theorem fr_pushed (h : Heap) (w : World) (o : Obj) : Fr h h w { w with heap := w.heap.push o } :=
  ⟨rfl, rfl, rfl, by simp, fun b hb _ => by rw [Array.getElem?_push, if_neg (by omega)], fun _ x y => absurd x y, fun _ _ x => x⟩

/-- The state between: what is left of the order, and what is so. -/
structure Inv (E : Env) (N : Nat) (ops : Array Oper) (os0 : List DOper) (K : T → Heap → Prop) (h0 : Heap) (w0 : World) (listed : Array Bool) (a : Act) (w : World) (κ : List Pd) (t : T) (h hb : Heap) (hist : List Heap) : Prop where
  run : runP E κ K t h hb hist
  tok : Tok N t a
  sat : Sat h w
  satb : Sat hb w
  lates : Lates (latesOf κ) h w w0.heap.size
  left : opsOf κ = os0.filter fun o => !(listed.getD o.ix true)
  fr : Fr h0 h w0 w
  size : listed.size = ops.size
  down : ∀ (i : Nat) (oo : Oper), ops[i]? = some oo → listed.getD i false = true → ∀ e ∈ oo.after.toList, Region.binds .any e = true → listed.getD e.on false = true

theorem getD_set {l : Array Bool} {i j : Nat} (hi : i < l.size) (d : Bool) : (l.setIfInBounds i true).getD j d = if j = i then true else l.getD j d := by
  simp only [Array.getD_eq_getD_getElem?, Array.getElem?_setIfInBounds]
  by_cases e : i = j
  · subst e; simp [hi]
  · rw [if_neg e, if_neg (Ne.symm e)]

theorem filter_split {os0 l1 l2 : List DOper} {o : DOper} {f : DOper → Bool} (h : os0 = l1 ++ o :: l2) (ho : f o = true) : os0.filter f = l1.filter f ++ o :: l2.filter f := by
  subst h; simp [List.filter_append, List.filter_cons, ho]

theorem wpAny_inv {ops : Array Oper} {os0 : List DOper} {bit : Nat → Nat → Bool} (ok : OrderOk E N ops os0 bit) {K : T → Heap → Prop} {h0 : Heap} {w0 : World} {Q' : Exit → Act → World → Prop}
    (hq : ∀ t h a w, Tok N t a → Sat h w → Fr h0 h w0 w → K t h → Q' .normal a w) : ∀ (fuel : Nat) (listed : Array Bool) (a : Act) (w : World) (κ : List Pd) (t : T) (h hb : Heap) (hist : List Heap),
    Inv E N ops os0 K h0 w0 listed a w κ t h hb hist → (opsOf κ).length ≤ fuel → wpAny E.P .any ops Q' fuel listed a w := by
  intro fuel
  -- none is left: the end
  have done : ∀ (listed : Array Bool) (a : Act) (w : World) (κ : List Pd) (t : T) (h hb : Heap) (hist : List Heap), Inv E N ops os0 K h0 w0 listed a w κ t h hb hist → opsOf κ = [] → Q' .normal a w := by
    intro listed a w κ t h hb hist I he
    obtain ⟨h', hs', hl', hf', hr⟩ := consume_lates (E := E) rfl κ he h [] I.sat (by simpa using I.lates) I.fr (by simpa using I.run)
    exact hq t h' a w I.tok hs' hf' hr
  have unlisted : ∀ (listed : Array Bool) (a : Act) (w : World) (κ : List Pd) (t : T) (h hb : Heap) (hist : List Heap), Inv E N ops os0 K h0 w0 listed a w κ t h hb hist → opsOf κ = [] → Region.ready .any ops listed = [] := by
    intro listed a w κ t h hb hist I he
    unfold Region.ready
    rw [List.filter_eq_nil_iff]
    intro i hi
    have hi' : i < ops.size := by simpa using hi
    obtain ⟨o, ho, hix⟩ := ok.all i hi'
    have := I.left
    rw [he] at this
    have h1 := List.filter_eq_nil_iff.1 this.symm o ho
    rw [hix] at h1
    simp only [Bool.not_eq_true', Bool.not_eq_false] at h1
    simp [h1]
  have first : ∀ (listed : Array Bool) (a : Act) (w : World) (κ : List Pd) (t : T) (h hb : Heap) (hist : List Heap), Inv E N ops os0 K h0 w0 listed a w κ t h hb hist → Region.ready .any ops listed = [] → opsOf κ = [] := by
    intro listed a w κ t h hb hist I hr
    cases e : opsOf κ with
    | nil => rfl
    | cons o r =>
      exfalso
      have hl := I.left
      rw [e] at hl
      obtain ⟨l1, l2, hos, hl1, ho⟩ : ∃ l1 l2, os0 = l1 ++ o :: l2 ∧ (∀ p ∈ l1, (!(listed.getD p.ix true)) = false) ∧ (!(listed.getD o.ix true)) = true := by
        have := List.filter_eq_cons_iff.1 hl.symm
        obtain ⟨l1, l2, h1, h2, h3, h4⟩ := this
        exact ⟨l1, l2, h1, fun p hp => by simpa using h2 p hp, h3⟩
      have hlt := (ok.comp o (by rw [hos]; simp)).2
      have : o.ix ∈ Region.ready .any ops listed := by
        unfold Region.ready
        rw [List.mem_filter]
        refine ⟨by simpa using hlt, ?_⟩
        simp only [Bool.and_eq_true]
        refine ⟨ho, ?_⟩
        rw [Array.getElem?_eq_getElem hlt]
        simp only [Option.map_some, Option.getD_some, Array.all_eq_true']
        intro e he
        cases hb : Region.binds .any e
        · simp
        · simp only [Bool.not_true, Bool.false_or]
          obtain ⟨p, hp, hpe⟩ := ok.edges l1 o l2 hos _ (Array.getElem?_eq_getElem hlt) e (by simpa using he) hb
          have h1 := hl1 p hp
          rw [hpe] at h1
          simp only [Bool.not_eq_false'] at h1
          have hpl := (ok.comp p (by rw [hos]; simp [hp])).2
          rw [hpe, ← I.size] at hpl
          simp only [Array.getD_eq_getD_getElem?, Array.getElem?_eq_getElem hpl, Option.getD_some] at h1 ⊢
          exact h1
      rw [hr] at this
      simp at this
  induction fuel with
  | zero =>
    intro listed a w κ t h hb hist I hlen
    have he : opsOf κ = [] := List.eq_nil_of_length_eq_zero (by omega)
    exact ⟨unlisted _ _ _ _ _ _ _ _ I he, done _ _ _ _ _ _ _ _ I he⟩
  | succ fuel ih =>
    intro listed a w κ t h hb hist I hlen
    refine ⟨fun hr => done _ _ _ _ _ _ _ _ I (first _ _ _ _ _ _ _ _ I hr), ?_⟩
    intro i hi
    -- the one that is drawn
    unfold Region.ready at hi
    rw [List.mem_filter] at hi
    obtain ⟨hir, hi⟩ := hi
    have hisz : i < ops.size := by simpa using hir
    simp only [Bool.and_eq_true] at hi
    obtain ⟨hun, hedges⟩ := hi
    rw [Array.getElem?_eq_getElem hisz] at hedges
    simp only [Option.map_some, Option.getD_some, Array.all_eq_true'] at hedges
    have hedges' : ∀ e ∈ (ops[i]'hisz).after.toList, Region.binds .any e = true → listed.getD e.on false = true := by
      intro e he hb'
      have := hedges e (by simpa using he)
      simpa [hb'] using this
    obtain ⟨o, ho, rfl⟩ := ok.all i hisz
    obtain ⟨l1, l2, hos⟩ := List.append_of_mem ho
    have hleft := I.left
    rw [filter_split hos hun] at hleft
    obtain ⟨pre, post, rfl, hpre, hpost⟩ := opsOf_split κ _ _ o hleft
    have hlist := bits_listed ok (L := fun i => listed.getD i false) I.down o.ix _ (Array.getElem?_eq_getElem hisz) hedges'
    have hsame : ∀ p : DOper, p ∈ os0 → listed.getD p.ix true = listed.getD p.ix false := by
      intro p hp
      have := (ok.comp p hp).2
      rw [← I.size] at this
      simp [Array.getD_eq_getD_getElem?, Array.getElem?_eq_getElem this]
    have hnobit : ∀ p ∈ opsOf pre, bit o.ix p.ix = false := by
      intro p hp
      rw [hpre, List.mem_filter] at hp
      cases hb' : bit o.ix p.ix with
      | false => rfl
      | true =>
        have h1 := hlist p.ix hb'
        have h2 := hp.2
        rw [hsame p (by rw [hos]; simp [hp.1])] at h2
        have h1' : listed.getD p.ix false = true := h1
        rw [h1'] at h2; simp at h2
    obtain ⟨p1, p2, p3⟩ := ok.pairs l1 o l2 hos
    have hmem : ∀ p ∈ opsOf pre, p ∈ l1 := by
      intro p hp; rw [hpre, List.mem_filter] at hp; exact hp.1
    have hapart : ∀ p ∈ opsOf pre, apartA p.a o.a = true := fun p hp => p1 p (hmem p hp) (hnobit p hp)
    have hcomp : ∀ p ∈ opsOf pre, compOper E.P E.ψ N ops p.ix = some p.a := fun p hp => (ok.comp p (by rw [hos]; simp [hmem p hp])).1
    have hco := (ok.comp o ho).1
    -- the next state
    have hleft' : ∀ κ', opsOf κ' = opsOf pre ++ opsOf post → opsOf κ' = os0.filter fun q => !((listed.setIfInBounds o.ix true).getD q.ix true) := by
      intro κ' hk
      rw [hk, hpre, hpost, hos]
      have hnd := ok.distinct
      rw [hos] at hnd
      simp only [List.map_append, List.map_cons] at hnd
      have hne1 : ∀ p ∈ l1, p.ix ≠ o.ix := by
        intro p hp e
        have := (List.nodup_append.1 hnd).2.2 p.ix (List.mem_map.2 ⟨p, hp, rfl⟩) o.ix (by simp)
        exact this e
      have hne2 : ∀ p ∈ l2, p.ix ≠ o.ix := by
        intro p hp e
        have := (List.nodup_cons.1 (List.nodup_append.1 hnd).2.1).1
        exact this (List.mem_map.2 ⟨p, hp, e⟩)
      have hisz' : o.ix < listed.size := by rw [I.size]; exact hisz
      simp only [List.filter_append, List.filter_cons, getD_set hisz', if_true, Bool.not_true, Bool.false_eq_true, if_false]
      congr 1
      · apply List.filter_congr
        intro p hp; rw [if_neg (hne1 p hp)]
      · apply List.filter_congr
        intro p hp; rw [if_neg (hne2 p hp)]
    have hsize' : (listed.setIfInBounds o.ix true).size = ops.size := by simpa using I.size
    have hdown' : ∀ (i : Nat) (oo : Oper), ops[i]? = some oo → (listed.setIfInBounds o.ix true).getD i false = true → ∀ e ∈ oo.after.toList, Region.binds .any e = true → (listed.setIfInBounds o.ix true).getD e.on false = true := by
      intro j oo hj hl e he hb'
      have hisz' : o.ix < listed.size := by rw [I.size]; exact hisz
      rw [getD_set hisz'] at hl ⊢
      split
      · rfl
      · split at hl
        · rename_i hne he2; subst he2
          rw [Array.getElem?_eq_getElem hisz] at hj
          simp only [Option.some.injEq] at hj; subst hj
          exact hedges' e he hb'
        · exact I.down j oo hj hl e he hb'
    have hlen' : (opsOf pre ++ opsOf post).length ≤ fuel := by
      rw [opsOf_append] at hlen
      simp only [opsOf, List.length_append, List.length_cons] at hlen ⊢
      omega
    cases hW : o.op.isW with
    | true =>
      have hnil : opsOf pre = [] := by
        cases e : opsOf pre with
        | nil => rfl
        | cons p r =>
          exfalso
          have hp : p ∈ opsOf pre := by rw [e]; simp
          have h1 := p2 hW p (hmem p hp)
          rw [hnobit p hp] at h1; cases h1
      obtain ⟨h', hs', hl', hf', hr⟩ := consume_lates (E := E) rfl pre hnil h (.op o :: post) I.sat I.lates I.fr I.run
      simp only [runP] at hr
      refine exec_one hco hr I.tok hs' I.satb ?_
      intro u h2 hb2 hist2 w2 a2 tok2 hs2 hsb2 hf2 hcase pp
      refine ih (listed.setIfInBounds o.ix true) a2 w2 post _ h2 hb2 hist2 ⟨pp, tok2, hs2, hsb2, ?_, ?_, hf'.trans hf2, hsize', hdown'⟩ ?_
      · exact Lates.fr (by simpa [latesOf] using hl') hf2
      · exact hleft' post (by rw [hnil]; simp)
      · rw [hnil] at hlen'; simpa using hlen'
    | false =>
      have hk : 0 + wCount pre ≤ o.back ∨ o.op.isA = true := by
        rcases p3 hW with hA | hcnt
        · exact .inr hA
        · left
          rw [Nat.zero_add, wCount_eq, hpre]
          refine Nat.le_trans ?_ hcnt
          apply List.Sublist.length_le
          apply List.Sublist.filter
          have : l1.filter (fun p => !(listed.getD p.ix true)) = (l1.filter fun p => !(bit o.ix p.ix)).filter (fun p => !(listed.getD p.ix true)) := by
            rw [List.filter_filter]
            apply List.filter_congr
            intro p hp
            cases hl : listed.getD p.ix true with
            | true => simp
            | false =>
              have : p ∈ opsOf pre := by rw [hpre, List.mem_filter]; exact ⟨hp, by simp [hl]⟩
              simp [hnobit p this]
          rw [this]
          exact List.filter_sublist
      have hfacts := facts hW (K := K) (post := post) (hb0 := hb) t pre hapart hcomp t h hb hist 0 a w w0.heap.size (fun _ _ => rfl) (.inl rfl) hk I.tok I.sat I.satb
        (by
          have := I.lates
          rw [latesOf_append] at this
          refine ⟨fun x hx => this.1 x (by simp [hx]), ?_⟩
          have h2 := this.2
          rw [List.map_append] at h2
          exact (List.nodup_append.1 h2).1) I.run
      have hlates : Lates (latesOf (pre ++ post)) h w w0.heap.size := by
        have := I.lates
        rw [latesOf_append] at this ⊢
        simpa [latesOf] using this
      rcases hfacts with hoff | ⟨hon, hF, hA⟩
      · refine exec_guard hco I.tok hoff (fun e => by cases e) (fun _ a' tok' => ?_)
        refine ih _ a' w (pre ++ post) _ h hb hist ⟨take_off hW t hoff pre hapart t h hb hist (fun _ _ => rfl) I.run, tok', I.sat, I.satb, hlates, hleft' _ (opsOf_append _ _), I.fr, hsize', hdown'⟩ (by rw [opsOf_append]; exact hlen')
      · cases hAA : o.op.isA with
        | false =>
          obtain ⟨v, hv⟩ := hF hAA
          have hk' : 0 + wCount pre ≤ o.back := by
            rcases hk with hk | hk
            · exact hk
            · rw [hAA] at hk; cases hk
          refine exec_guard hco I.tok hon (fun _ o0 hd hop hput => ?_) (fun e => by cases e)
          rcases hop with hbad | hcc
          · rw [hbad] at hv; simp [pureV] at hv
          · refine wp_value (quiet_sound (P := E.P) I.satb I.tok.agree E.fid_ok (fun f => rfl) hcc hv) ?_
            exact ih _ _ w (pre ++ post) _ h hb hist ⟨take_F hW hAA t pre hapart t h hb hist 0 (fun _ _ => rfl) (.inl rfl) hk' (fun _ => hv) (fun e => by rw [hon] at e; cases e) I.run, hput v, I.sat, I.satb, hlates, hleft' _ (opsOf_append _ _), I.fr, hsize', hdown'⟩ (by rw [opsOf_append]; exact hlen')
        | true =>
          obtain ⟨⟨blk, mk⟩, hv⟩ := hA hAA
          refine exec_guard hco I.tok hon (fun _ o0 hd hop hput => ?_) (fun e => by cases e)
          rcases hop with hbad | hcc
          · rw [hbad] at hv; simp [allocV] at hv
          · obtain ⟨obj, hr, hbs⟩ := alloc_sound (P := E.P) (w := w) I.tok.agree hcc hv
            refine wp_value hr ?_
            have hfp := fr_pushed h w obj
            refine ih _ _ { w with heap := w.heap.push obj } (pre ++ .late w.heap.size blk :: post) _ h hb hist ⟨take_A hW hAA t hon hv pre hapart t h hb hist (fun _ _ => rfl) I.run, hput _, sat_pushed I.sat obj, sat_pushed I.satb obj, ?_, hleft' _ (by rw [opsOf_append]; rfl), I.fr.trans hfp, hsize', hdown'⟩ (by rw [opsOf_append]; exact hlen')
            have hl2 := Lates.fr hlates hfp
            rw [latesOf_append] at hl2 ⊢
            refine ⟨?_, ?_⟩
            · intro x hx
              simp only [latesOf, List.mem_append, List.mem_cons] at hx
              rcases hx with hx | rfl | hx
              · exact hl2.1 x (by simp [hx])
              · exact ⟨I.sat.none_of_ge (Nat.le_refl _), by simpa using hbs, I.fr.size, by simp⟩
              · exact hl2.1 x (by simp [hx])
            · have hold : ∀ x ∈ latesOf pre ++ latesOf post, x.1 ≠ w.heap.size := by
                intro x hx e
                have := (hlates.1 x (by rw [latesOf_append]; exact hx)).2.2.2
                omega
              have hn := hl2.2
              simp only [latesOf, List.map_append, List.map_cons]
              rw [List.map_append] at hn
              rw [List.nodup_append] at hn ⊢
              refine ⟨hn.1, List.nodup_cons.2 ⟨?_, hn.2.1⟩, ?_⟩
              · intro hm
                obtain ⟨x, hx, e⟩ := List.mem_map.1 hm
                exact hold x (by simp [hx]) e
              · intro b1 hb1 b2 hb2
                simp only [List.mem_cons] at hb2
                rcases hb2 with rfl | hb2
                · obtain ⟨x, hx, e⟩ := List.mem_map.1 hb1
                  rw [← e]; exact hold x (by simp [hx])
                · exact hn.2.2 b1 hb1 b2 hb2

end
end Go.Bb
