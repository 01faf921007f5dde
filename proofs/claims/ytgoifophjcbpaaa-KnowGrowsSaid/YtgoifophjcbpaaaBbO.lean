/- Regions whose order is drawn: one order is walked, all orders come to it. -/
import Derived.Test.YtgoifophjcbpaaaBbN
namespace Go.Bb
set_option linter.unusedSimpArgs false
set_option linter.unusedVariables false

/-! ### what an operation looks at -/
theorem oev_congr {fid : Nat → Option FuncId} {t t' : T} {x : Opd} (h : ∀ i ∈ x.tmps, t i = t' i) : oev fid t x = oev fid t' x := by
  cases x with
  | t i => exact h i (by simp [Opd.tmps])
  | c v => rfl
  | f n => rfl

theorem allV_congr {fid : Nat → Option FuncId} {t t' : T} : ∀ {xs : List Opd}, (∀ i ∈ opdsT xs, t i = t' i) → allV (oev fid t) xs = allV (oev fid t') xs
  | [], _ => rfl
  | x :: xs, h => by
    have h1 : oev fid t x = oev fid t' x := oev_congr fun i hi => h i (by simp [opdsT]; exact .inl hi)
    have h2 : allV (oev fid t) xs = allV (oev fid t') xs := allV_congr fun i hi => h i (by simp only [opdsT, List.flatMap_cons, List.mem_append]; exact .inr hi)
    simp only [allV, h1, h2]

theorem allP_congr {fid : Nat → Option FuncId} {t t' : T} : ∀ {xs : List (Nat × Nat × Opd)}, (∀ i ∈ opdsT (xs.map (·.2.2)), t i = t' i) → allP (oev fid t) xs = allP (oev fid t') xs
  | [], _ => rfl
  | (a, b, x) :: xs, h => by
    have h1 : oev fid t x = oev fid t' x := oev_congr fun i hi => h i (by simp [opdsT]; exact .inl hi)
    have h2 : allP (oev fid t) xs = allP (oev fid t') xs := allP_congr fun i hi => h i (by simp only [opdsT, List.map_cons, List.flatMap_cons, List.mem_append]; exact .inr hi)
    simp only [allP, h1, h2]

theorem oOpt_congr {fid : Nat → Option FuncId} {t t' : T} {x : Option Opd} (h : ∀ i ∈ optT x, t i = t' i) : oOpt (oev fid t) x = oOpt (oev fid t') x := by
  cases x with
  | none => rfl
  | some x => simp only [oOpt, oev_congr (fid := fid) (x := x) h]

section
variable {E : Env} {t t' : T}

theorem pureV_congr {h : Heap} {op : AOp} (hl : ∀ i ∈ op.looks, t i = t' i) : pureV E.fid (oev E.fid t) h op = pureV E.fid (oev E.fid t') h op := by
  cases op <;> simp only [AOp.looks, List.mem_append] at hl <;> simp only [pureV]
  case fn n a b => rw [allV_congr (xs := a) fun i hi => hl i (.inl hi), allV_congr (xs := b) fun i hi => hl i (.inr hi)]
  case build z ps => rw [allP_congr hl]
  case prim p xs => rw [allV_congr hl]
  case pick a b c => rw [oev_congr (x := a) fun i hi => hl i (.inl (.inl hi)), oev_congr (x := b) fun i hi => hl i (.inl (.inr hi)), oev_congr (x := c) fun i hi => hl i (.inr hi)]
  case slStr x a b => rw [oev_congr (x := x) fun i hi => hl i (.inl (.inl hi)), oOpt_congr (x := a) fun i hi => hl i (.inl (.inr hi)), oOpt_congr (x := b) fun i hi => hl i (.inr hi)]
  case slSl s x a b c => rw [oev_congr (x := x) fun i hi => hl i (.inl (.inl (.inl hi))), oOpt_congr (x := a) fun i hi => hl i (.inl (.inl (.inr hi))), oOpt_congr (x := b) fun i hi => hl i (.inl (.inr hi)), oOpt_congr (x := c) fun i hi => hl i (.inr hi)]
  case slArr n s x a b c => rw [oev_congr (x := x) fun i hi => hl i (.inl (.inl (.inl hi))), oOpt_congr (x := a) fun i hi => hl i (.inl (.inl (.inr hi))), oOpt_congr (x := b) fun i hi => hl i (.inl (.inr hi)), oOpt_congr (x := c) fun i hi => hl i (.inr hi)]
  all_goals first
    | done
    | rfl
    | (rw [oev_congr hl]; done)
    | (rw [oev_congr fun i hi => hl i (.inl hi), oev_congr fun i hi => hl i (.inr hi)])

theorem allocV_congr {op : AOp} (hl : ∀ i ∈ op.looks, t i = t' i) : allocV (oev E.fid t) op = allocV (oev E.fid t') op := by
  cases op <;> simp only [AOp.looks, List.mem_append] at hl <;> simp only [allocV]
  case box x => rw [oev_congr hl]
  case bslice n s z ps => rw [allP_congr hl]
  case mslice b z x y => rw [oev_congr (x := x) fun i hi => hl i (.inl hi), oev_congr (x := y) fun i hi => hl i (.inr hi)]

theorem stepW_congr {h : Heap} {K : Value → Heap → Prop} {op : AOp} (hl : ∀ i ∈ op.looks, t i = t' i) : stepW E (oev E.fid t) h K op = stepW E (oev E.fid t') h K op := by
  cases op <;> simp only [AOp.looks, List.mem_append] at hl <;> simp only [stepW]
  case call n xs => rw [allV_congr hl]
  case callv f xs => rw [oev_congr (x := f) fun i hi => hl i (.inl hi), allV_congr (xs := xs) fun i hi => hl i (.inr hi)]
  case mupd kt a b c => rw [oev_congr (x := a) fun i hi => hl i (.inl (.inl hi)), oev_congr (x := b) fun i hi => hl i (.inl (.inr hi)), oev_congr (x := c) fun i hi => hl i (.inr hi)]
  case bytesOf x => rw [oev_congr hl]
  case mark x => rw [oev_congr hl]
  all_goals first
    | done
    | (rw [oev_congr fun i hi => hl i (.inl hi), oev_congr fun i hi => hl i (.inr hi)])

theorem step_of_W {ρ : Opd → Option Value} {h : Heap} {K : Value → Heap → Prop} {op : AOp} (hw : op.isW = true) : step E ρ h op K = stepW E ρ h K op := by
  cases op <;> simp [AOp.isW] at hw <;> rfl

theorem appendW_mono {size bytes : Nat} {h : Heap} {base : Option Addr} {n c m : Nat} {news : List Value} {K K' : Value → Heap → Prop} (hk : ∀ v h', K v h' → K' v h') (p : appendW size bytes h base n c m news K) : appendW size bytes h base n c m news K' := by
  unfold appendW at *
  split
  · rename_i hfit
    rw [if_pos hfit] at p
    split
    · exact hk _ _ p
    · simp only at p
      split
      · rename_i h' hst; rw [hst] at p; exact ⟨p.1, hk _ _ p.2⟩
      · rename_i hst; rw [hst] at p; exact p
  · rename_i hfit
    rw [if_neg hfit] at p
    refine ⟨p.1, p.2.1, ?_⟩
    have p3 := p.2.2
    split
    · rename_i old ho
      rw [ho] at p3
      exact fun b c' h1 h2 => hk _ _ (p3 b c' h1 h2)
    · rename_i ho; rw [ho] at p3; exact p3

theorem stepW_mono {ρ : Opd → Option Value} {h : Heap} {K K' : Value → Heap → Prop} {op : AOp} (hk : ∀ v h', K v h' → K' v h') (p : stepW E ρ h K op) : stepW E ρ h K' op := by
  unfold stepW at *
  split
  · split
    · rename_i p0 v h1 h2
      simp only [h1, h2] at p
      refine ⟨p.1, p.2.1, ?_⟩
      have p3 := p.2.2
      split
      · rename_i h' hst; rw [hst] at p3; exact hk _ _ p3
      · rename_i hst; rw [hst] at p3; exact p3
    · simp_all
  · split
    · rename_i vs hvs; simp only [hvs] at p; exact p.mono hk
    · rename_i hvs; simp only [hvs] at p
  · split
    · rename_i g first cap vs h1 h2
      simp only [h1, h2] at p
      exact ⟨p.1, p.2.mono hk⟩
    · simp_all
  · split
    · rename_i base n c xv h1 h2
      simp only [h1, h2] at p
      split
      · rename_i m news hr; simp only [hr] at p; exact appendW_mono hk p
      · rename_i hr; simp only [hr] at p
    · simp_all
  · split
    · rename_i base n c k m h1 h2
      simp only [h1, h2] at p
      exact ⟨p.1, p.2.1, p.2.2.1, appendW_mono hk p.2.2.2⟩
    · simp_all
  · split
    · rename_i base n c b m cs h1 h2
      simp only [h1, h2] at p
      split
      · rename_i l hl
        simp only [hl] at p
        refine ⟨p.1, ?_⟩
        have p2 := p.2
        cases base with
        | none => exact hk _ _ p2
        | some a =>
          simp only at p2 ⊢
          split
          · rename_i h' hst; rw [hst] at p2; exact hk _ _ p2
          · rename_i hst; rw [hst] at p2; exact p2
      · rename_i hl; simp only [hl] at p
    · rename_i base n c m cs h1 h2
      simp only [h1, h2] at p
      exact ⟨p.1, hk _ _ p.2⟩
    · rename_i base n c s h1 h2
      simp only [h1, h2] at p
      cases base with
      | none => exact hk _ _ p
      | some a =>
        refine ⟨p.1, ?_⟩
        have p2 := p.2
        split
        · rename_i h' hst; rw [hst] at p2; exact hk _ _ p2
        · rename_i hst; rw [hst] at p2; exact p2
    · simp_all
  · split
    · rename_i r kv vv h1 h2 h3
      simp only [h1, h2, h3] at p
      split
      · rename_i es c hr
        simp only [hr] at p
        split
        · rename_i u i v h4 h5; simp only [h4, h5] at p; exact hk _ _ p
        · rename_i u h4 h5; simp only [h4, h5] at p; exact hk _ _ p
        · simp_all
      · simp_all
    · simp_all
  · split
    · rename_i r kv h1 h2
      simp only [h1, h2] at p
      split
      · rename_i es c hr
        simp only [hr] at p
        split
        · rename_i u i v h4 h5; simp only [h4, h5] at p; exact hk _ _ p
        · rename_i u h4 h5; simp only [h4, h5] at p; exact hk _ _ p
        · simp_all
      · simp_all
    · simp_all
  · split
    · rename_i s h1
      simp only [h1] at p
      exact fun b c' h2 h3 => hk _ _ (p b c' h2 h3)
    · simp_all
  · split
    · rename_i a n c h1
      simp only [h1] at p
      split
      · rename_i st vs sz hb; simp only [hb] at p; exact hk _ _ p
      · simp_all
    · simp_all
  · simp_all

end
end Go.Bb
