/- Drawn orders, part 2: the walk of one order, and how one operation is taken out of it. -/
import Derived.Test.YtgoifophjcbpaaaBbO
namespace Go.Bb
set_option linter.unusedSimpArgs false
set_option linter.unusedVariables false

def skipD (o : DOper) (t : T) (h hb : Heap) (hist : List Heap) (R : T → Heap → Heap → List Heap → Prop) : Prop :=
  R (tput t o.dst undef) h hb (if o.op.isW = true then hb :: hist else hist)

def goD (E : Env) (o : DOper) (t : T) (h hb : Heap) (hist : List Heap) (R : T → Heap → Heap → List Heap → Prop) : Prop :=
  if o.op.isW = true then step E (oev E.fid t) h o.op fun v h' => R (tput t o.dst v) h' h' (hb :: hist)
  else if o.op.isA = true then
    match allocV (oev E.fid t) o.op with
    | some (blk, mk) => ∀ b, h b = none → R (tput t o.dst (mk b)) (h.set b blk) hb hist
    | none => False
  else
    match pureV E.fid (oev E.fid t) hb o.op with
    | some v => (∀ g ∈ hist.take o.back, pureV E.fid (oev E.fid t) g o.op = some v) ∧ R (tput t o.dst v) h hb hist
    | none => False

def oneD (E : Env) (o : DOper) (t : T) (h hb : Heap) (hist : List Heap) (R : T → Heap → Heap → List Heap → Prop) : Prop :=
  match o.guard with
  | none => goD E o t h hb hist R
  | some (g, want) =>
    match t g with
    | some (.bool b) => if b = want then goD E o t h hb hist R else skipD o t h hb hist R
    | _ => False

def runD (E : Env) : List DOper → (T → Heap → Prop) → T → Heap → Heap → List Heap → Prop
  | [], K, t, h, _, _ => K t h
  | o :: os, K, t, h, hb, hist => oneD E o t h hb hist (runD E os K)

inductive Pd where
  | op (o : DOper)
  | late (b : Nat) (blk : Blk)

def runP (E : Env) : List Pd → (T → Heap → Prop) → T → Heap → Heap → List Heap → Prop
  | [], K, t, h, _, _ => K t h
  | .op o :: r, K, t, h, hb, hist => oneD E o t h hb hist (runP E r K)
  | .late b blk :: r, K, t, h, hb, hist => h b = none → runP E r K t (h.set b blk) hb hist

theorem runP_of_runD {E : Env} : ∀ (os : List DOper) (K : T → Heap → Prop) (t : T) (h hb : Heap) (hist : List Heap), runD E os K t h hb hist → runP E (os.map .op) K t h hb hist := by
  intro os K
  have key : ∀ os : List DOper, runD E os K = runP E (os.map .op) K := by
    intro os
    induction os with
    | nil => rfl
    | cons o os ih => funext t h hb hist; simp only [runD, runP, List.map_cons, ih]
  intro t h hb hist p
  rw [key os] at p; exact p

def DOper.a (o : DOper) : AOper := ⟨o.dst, o.op, o.guard⟩

/-- Is the operation asked for, as far as is known? -/
def onOf (o : DOper) (t : T) : Option Bool :=
  match o.guard with
  | none => some true
  | some (g, want) => match t g with | some (.bool b) => some (decide (b = want)) | _ => none

theorem oneD_eq {E : Env} {o : DOper} {t : T} {h hb : Heap} {hist : List Heap} {R : T → Heap → Heap → List Heap → Prop} :
    oneD E o t h hb hist R ↔ (onOf o t = some true ∧ goD E o t h hb hist R) ∨ (onOf o t = some false ∧ skipD o t h hb hist R) := by
  unfold oneD onOf
  split
  · simp
  · rename_i g want hg
    split
    · rename_i b hb'
      by_cases e : b = want
      · simp [e]
      · simp [e]
    · simp

theorem looks_off {x y : AOper} (h : apartA x y = true) : (∀ d, x.dst = some d → d ∉ y.looks ∧ y.dst ≠ some d) ∧ (∀ d, y.dst = some d → d ∉ x.looks) := by
  unfold apartA at h
  simp only [Bool.and_eq_true] at h
  constructor
  · intro d hd
    have := h.1
    rw [hd] at this
    simp only [Bool.and_eq_true, Bool.not_eq_true', List.contains_eq_mem, decide_eq_false_iff_not, bne_iff_ne] at this
    exact this
  · intro d hd
    have := h.2
    rw [hd] at this
    simpa using this

theorem tput_off {t : T} {d : Option Nat} {v : Value} {i : Nat} (h : ∀ k, d = some k → k ≠ i) : tput t d v i = t i := by
  cases d with
  | none => rfl
  | some k => simp only [tput]; rw [if_neg (Ne.symm (h k rfl))]

theorem tput_comm {t : T} {d d' : Option Nat} {v v' : Value} (h : ∀ k, d = some k → d' ≠ some k) : tput (tput t d v) d' v' = tput (tput t d' v') d v := by
  cases d with
  | none => rfl
  | some k =>
    cases d' with
    | none => rfl
    | some k' =>
      have hne : k ≠ k' := fun e => h k rfl (by rw [e])
      funext i
      simp only [tput]
      by_cases e1 : i = k' <;> by_cases e2 : i = k <;> simp [e1, e2]
      · exact absurd (e2.symm.trans e1) hne
      all_goals (first | (subst e1; simp [Ne.symm hne]) | (subst e2; simp [hne]) | skip)

section
variable {E : Env}

theorem onOf_put {o : DOper} {t : T} {d : Option Nat} {v : Value} (h : ∀ k, d = some k → k ∉ o.a.looks) : onOf o (tput t d v) = onOf o t := by
  unfold onOf
  split
  · rfl
  · rename_i g want hg
    have : tput t d v g = t g := tput_off fun k hk => by
      intro e; subst e
      exact h k hk (by simp [DOper.a, AOper.looks, hg])
    rw [this]

theorem look_put {o : DOper} {t : T} {d : Option Nat} {v : Value} (h : ∀ k, d = some k → k ∉ o.a.looks) : ∀ i ∈ o.op.looks, tput t d v i = t i := by
  intro i hi
  refine tput_off fun k hk e => ?_
  subst e
  exact h k hk (by simp [DOper.a, AOper.looks, hi])

def wCount : List Pd → Nat
  | [] => 0
  | .op o :: r => (if o.op.isW = true then 1 else 0) + wCount r
  | .late _ _ :: r => wCount r

def opsOf : List Pd → List DOper
  | [] => []
  | .op o :: r => o :: opsOf r
  | .late _ _ :: r => opsOf r

def latesOf : List Pd → List (Nat × Blk)
  | [] => []
  | .op _ :: r => latesOf r
  | .late b x :: r => (b, x) :: latesOf r

/-- One operation ahead, with what comes behind it changed. -/
theorem oneD_mono {o : DOper} {t : T} {h hb : Heap} {hist : List Heap} {R R' : T → Heap → Heap → List Heap → Prop}
    (hk : ∀ v h' hb' hist', ((h' = h ∧ hb' = hb ∧ hist' = hist) ∨ (∃ b blk, h' = h.set b blk ∧ hb' = hb ∧ hist' = hist) ∨ (hb' = h' ∧ hist' = hb :: hist ∧ o.op.isW = true) ∨ (h' = h ∧ hb' = hb ∧ hist' = hb :: hist ∧ o.op.isW = true)) → R (tput t o.dst v) h' hb' hist' → R' (tput t o.dst v) h' hb' hist')
    (p : oneD E o t h hb hist R) : oneD E o t h hb hist R' := by
  rw [oneD_eq] at p ⊢
  rcases p with ⟨h1, p⟩ | ⟨h1, p⟩
  · refine .inl ⟨h1, ?_⟩
    unfold goD at p ⊢
    by_cases hw : o.op.isW = true
    · rw [if_pos hw] at p ⊢
      rw [step_of_W hw] at p ⊢
      exact stepW_mono (fun v h' q => hk v h' h' _ (.inr (.inr (.inl ⟨rfl, rfl, hw⟩))) q) p
    · rw [if_neg hw] at p ⊢
      by_cases hA : o.op.isA = true
      · rw [if_pos hA] at p ⊢
        split
        · rename_i blk mk ha
          rw [ha] at p
          exact fun b hb' => hk _ _ _ _ (.inr (.inl ⟨b, blk, rfl, rfl, rfl⟩)) (p b hb')
        · rename_i ha; rw [ha] at p; exact p
      · rw [if_neg hA] at p ⊢
        split
        · rename_i v hv
          rw [hv] at p
          exact ⟨p.1, hk _ _ _ _ (.inl ⟨rfl, rfl, rfl⟩) p.2⟩
        · rename_i hv; rw [hv] at p; exact p
  · refine .inr ⟨h1, ?_⟩
    unfold skipD at p ⊢
    by_cases hw : o.op.isW = true
    · rw [if_pos hw] at p ⊢
      exact hk _ _ _ _ (.inr (.inr (.inr ⟨rfl, rfl, rfl, hw⟩))) p
    · rw [if_neg hw] at p ⊢
      exact hk _ _ _ _ (.inl ⟨rfl, rfl, rfl⟩) p

/-- An operation ahead does not see what one puts that it has nothing to do with. -/
theorem oneD_put {o : DOper} {t : T} {h hb : Heap} {hist : List Heap} {R : T → Heap → Heap → List Heap → Prop} {d : Option Nat} {u : Value} (h1 : ∀ k, d = some k → k ∉ o.a.looks ∧ o.dst ≠ some k)
    (p : oneD E o t h hb hist fun t' h' hb' hist' => R (tput t' d u) h' hb' hist') : oneD E o (tput t d u) h hb hist R := by
  have hl := look_put (o := o) (t := t) (d := d) (v := u) fun k hk => (h1 k hk).1
  have hc : ∀ v, tput (tput t o.dst v) d u = tput (tput t d u) o.dst v := fun v => (tput_comm fun k hk => (h1 k hk).2).symm
  rw [oneD_eq] at p ⊢
  rw [onOf_put fun k hk => (h1 k hk).1]
  rcases p with ⟨g1, p⟩ | ⟨g1, p⟩
  · refine .inl ⟨g1, ?_⟩
    unfold goD at p ⊢
    by_cases hw : o.op.isW = true
    · rw [if_pos hw] at p ⊢
      rw [step_of_W hw] at p ⊢
      rw [stepW_congr hl]
      exact stepW_mono (fun v h' q => by rw [← hc]; exact q) p
    · rw [if_neg hw] at p ⊢
      by_cases hA : o.op.isA = true
      · rw [if_pos hA] at p ⊢
        rw [allocV_congr hl]
        split
        · rename_i blk mk ha
          rw [ha] at p
          exact fun b hb' => by rw [← hc]; exact p b hb'
        · rename_i ha; rw [ha] at p; exact p
      · rw [if_neg hA] at p ⊢
        rw [pureV_congr hl]
        split
        · rename_i v hv
          rw [hv] at p
          refine ⟨fun g hg => by rw [pureV_congr hl]; exact p.1 g hg, ?_⟩
          rw [← hc]; exact p.2
        · rename_i hv; rw [hv] at p; exact p
  · refine .inr ⟨g1, ?_⟩
    unfold skipD at p ⊢
    rw [← hc]; exact p

/-- A quiet operation is taken ahead of those that it has nothing to do with. -/
theorem take_F {o : DOper} (hW : o.op.isW = false) (hA : o.op.isA = false) {post : List Pd} {K : T → Heap → Prop} {v : Value} {hb0 : Heap} (t0 : T) : ∀ (pre : List Pd), (∀ p ∈ opsOf pre, apartA p.a o.a = true) →
    ∀ (t : T) (h hb : Heap) (hist : List Heap) (k : Nat), (∀ i ∈ o.a.looks, t i = t0 i) → (hb0 = hb ∨ hb0 ∈ hist.take k) → k + wCount pre ≤ o.back → (onOf o t0 = some true → pureV E.fid (oev E.fid t0) hb0 o.op = some v) → (onOf o t0 = some false → v = undef) →
    runP E (pre ++ .op o :: post) K t h hb hist → runP E (pre ++ post) K (tput t o.dst v) h hb hist
  | [], _, t, h, hb, hist, k, ht, hh, hk, hon, hoff, p => by
    simp only [List.nil_append, runP] at p ⊢
    have e1 : onOf o t = onOf o t0 := by
      unfold onOf
      split
      · rfl
      · rename_i g want hg
        rw [ht g (by simp [DOper.a, AOper.looks, hg])]
    have e2 : ∀ i ∈ o.op.looks, t i = t0 i := fun i hi => ht i (by simp [DOper.a, AOper.looks, hi])
    rw [oneD_eq] at p
    rcases p with ⟨g1, p⟩ | ⟨g1, p⟩
    · unfold goD at p
      rw [if_neg (by simp [hW]), if_neg (by simp [hA])] at p
      split at p
      · rename_i u hu
        have h3 := hon (by rw [← e1]; exact g1)
        have huv : u = v := by
          rcases hh with hh | hh
          · subst hh
            rw [pureV_congr e2] at hu
            rw [h3] at hu; exact (Option.some.inj hu).symm
          · have hm : hb0 ∈ hist.take o.back := by
              have : hist.take k = (hist.take o.back).take k := by rw [List.take_take]; congr 1; omega
              rw [this] at hh; exact List.mem_of_mem_take hh
            have := p.1 hb0 hm
            rw [pureV_congr e2, h3] at this
            exact (Option.some.inj this).symm
        subst huv
        exact p.2
      · exact p.elim
    · unfold skipD at p
      rw [if_neg (by simp [hW])] at p
      rw [hoff (by rw [← e1]; exact g1)]
      exact p
  | .late b blk :: pre, hp, t, h, hb, hist, k, ht, hh, hk, hon, hoff, p => by
    simp only [List.cons_append, runP] at p ⊢
    intro hbn
    exact take_F hW hA t0 pre (fun q hq => hp q (by simpa [opsOf] using hq)) t _ hb hist k ht hh (by simpa [wCount] using hk) hon hoff (p hbn)
  | .op q :: pre, hp, t, h, hb, hist, k, ht, hh, hk, hon, hoff, p => by
    simp only [List.cons_append, runP] at p ⊢
    have hap := looks_off (hp q (by simp [opsOf]))
    refine oneD_put (fun k hk => ⟨hap.2 k hk, fun e => ?_⟩) ?_
    · exact (hap.1 k e).2 hk
    · refine oneD_mono ?_ p
      intro u h' hb' hist' hcase pp
      have hwc : wCount (.op q :: pre) = (if q.op.isW = true then 1 else 0) + wCount pre := rfl
      rw [hwc] at hk
      have hlook : ∀ i ∈ o.a.looks, tput t q.dst u i = t0 i := by
        intro i hi
        rw [tput_off fun j hj e => ?_]
        · exact ht i hi
        · subst e; exact (hap.1 j hj).1 hi
      rcases hcase with ⟨rfl, rfl, rfl⟩ | ⟨b, blk, rfl, rfl, rfl⟩ | ⟨rfl, rfl, hw⟩ | ⟨rfl, rfl, rfl, hw⟩
      · exact take_F hW hA t0 pre (fun q hq => hp q (by simp [opsOf, hq])) _ _ _ _ k hlook hh (by omega) hon hoff pp
      · exact take_F hW hA t0 pre (fun q hq => hp q (by simp [opsOf, hq])) _ _ _ _ k hlook hh (by omega) hon hoff pp
      · rw [if_pos hw] at hk
        refine take_F hW hA t0 pre (fun q hq => hp q (by simp [opsOf, hq])) _ _ _ _ (k + 1) hlook ?_ (by omega) hon hoff pp
        right
        rcases hh with hh | hh
        · subst hh; simp
        · simp only [List.take_succ_cons, List.mem_cons]; exact .inr hh
      · rw [if_pos hw] at hk
        exact take_F hW hA t0 pre (fun q hq => hp q (by simp [opsOf, hq])) _ _ _ _ (k + 1) hlook (by
          rcases hh with hh | hh
          · exact .inl hh
          · right; simp only [List.take_succ_cons, List.mem_cons]; exact .inr hh) (by omega) hon hoff pp

/-- One that makes a block is taken ahead; its block comes into sight at its place. -/
theorem take_A {o : DOper} (hW : o.op.isW = false) (hA : o.op.isA = true) {post : List Pd} {K : T → Heap → Prop} {b : Nat} {blk : Blk} {mk : Nat → Value} (t0 : T) (hon : onOf o t0 = some true) (hv : allocV (oev E.fid t0) o.op = some (blk, mk)) : ∀ (pre : List Pd), (∀ p ∈ opsOf pre, apartA p.a o.a = true) →
    ∀ (t : T) (h hb : Heap) (hist : List Heap), (∀ i ∈ o.a.looks, t i = t0 i) →
    runP E (pre ++ .op o :: post) K t h hb hist → runP E (pre ++ .late b blk :: post) K (tput t o.dst (mk b)) h hb hist
  | [], _, t, h, hb, hist, ht, p => by
    simp only [List.nil_append, runP] at p ⊢
    intro hbn
    have e1 : onOf o t = onOf o t0 := by
      unfold onOf
      split
      · rfl
      · rename_i g want hg
        rw [ht g (by simp [DOper.a, AOper.looks, hg])]
    have e2 : ∀ i ∈ o.op.looks, t i = t0 i := fun i hi => ht i (by simp [DOper.a, AOper.looks, hi])
    rw [oneD_eq] at p
    rcases p with ⟨g1, p⟩ | ⟨g1, p⟩
    · unfold goD at p
      rw [if_neg (by simp [hW]), if_pos hA, allocV_congr e2, hv] at p
      exact p b hbn
    · rw [e1, hon] at g1; cases g1
  | .late b' blk' :: pre, hp, t, h, hb, hist, ht, p => by
    simp only [List.cons_append, runP] at p ⊢
    intro hbn
    exact take_A hW hA t0 hon hv pre (fun q hq => hp q (by simpa [opsOf] using hq)) t _ hb hist ht (p hbn)
  | .op q :: pre, hp, t, h, hb, hist, ht, p => by
    simp only [List.cons_append, runP] at p ⊢
    have hap := looks_off (hp q (by simp [opsOf]))
    refine oneD_put (fun k hk => ⟨hap.2 k hk, fun e => ?_⟩) ?_
    · exact (hap.1 k e).2 hk
    · refine oneD_mono ?_ p
      intro u h' hb' hist' hcase pp
      have hlook : ∀ i ∈ o.a.looks, tput t q.dst u i = t0 i := by
        intro i hi
        rw [tput_off fun j hj e => ?_]
        · exact ht i hi
        · subst e; exact (hap.1 j hj).1 hi
      exact take_A hW hA t0 hon hv pre (fun q hq => hp q (by simp [opsOf, hq])) _ _ _ _ hlook pp

/-- One that makes a block, but is not asked for. -/
theorem take_off {o : DOper} (hW : o.op.isW = false) {post : List Pd} {K : T → Heap → Prop} (t0 : T) (hon : onOf o t0 = some false) : ∀ (pre : List Pd), (∀ p ∈ opsOf pre, apartA p.a o.a = true) →
    ∀ (t : T) (h hb : Heap) (hist : List Heap), (∀ i ∈ o.a.looks, t i = t0 i) →
    runP E (pre ++ .op o :: post) K t h hb hist → runP E (pre ++ post) K (tput t o.dst undef) h hb hist
  | [], _, t, h, hb, hist, ht, p => by
    simp only [List.nil_append, runP] at p ⊢
    have e1 : onOf o t = onOf o t0 := by
      unfold onOf
      split
      · rfl
      · rename_i g want hg
        rw [ht g (by simp [DOper.a, AOper.looks, hg])]
    rw [oneD_eq] at p
    rcases p with ⟨g1, p⟩ | ⟨g1, p⟩
    · rw [e1, hon] at g1; cases g1
    · unfold skipD at p
      rw [if_neg (by simp [hW])] at p
      exact p
  | .late b' blk' :: pre, hp, t, h, hb, hist, ht, p => by
    simp only [List.cons_append, runP] at p ⊢
    intro hbn
    exact take_off hW t0 hon pre (fun q hq => hp q (by simpa [opsOf] using hq)) t _ hb hist ht (p hbn)
  | .op q :: pre, hp, t, h, hb, hist, ht, p => by
    simp only [List.cons_append, runP] at p ⊢
    have hap := looks_off (hp q (by simp [opsOf]))
    refine oneD_put (fun k hk => ⟨hap.2 k hk, fun e => ?_⟩) ?_
    · exact (hap.1 k e).2 hk
    · refine oneD_mono ?_ p
      intro u h' hb' hist' hcase pp
      have hlook : ∀ i ∈ o.a.looks, tput t q.dst u i = t0 i := by
        intro i hi
        rw [tput_off fun j hj e => ?_]
        · exact ht i hi
        · subst e; exact (hap.1 j hj).1 hi
      exact take_off hW t0 hon pre (fun q hq => hp q (by simp [opsOf, hq])) _ _ _ _ hlook pp

end
end Go.Bb
