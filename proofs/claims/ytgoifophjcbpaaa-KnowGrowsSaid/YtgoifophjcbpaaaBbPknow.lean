/- What can be known, in plain words: the least that is closed. -/
import Derived.Test.YtgoifophjcbpaaaBbCknow3
namespace Go.Bb
set_option linter.unusedSimpArgs false
set_option linter.unusedVariables false

inductive Kn (L : List Th) (S : Int → Prop) : Nat → Prop
  | base {i : Nat} (hi : i < L.length) (h : S i) : Kn L S i
  | same {i j : Nat} (hi : i < L.length) (he : FI L i = FI L j) (h : Kn L S j) : Kn L S i
  | fst {i : Nat} (hi : i < L.length) (hk : L[i].k = 2) (h : Kn L S i) : Kn L S L[i].a.toNat
  | snd {i : Nat} (hi : i < L.length) (hk : L[i].k = 2) (h : Kn L S i) : Kn L S L[i].b.toNat
  | opened {i : Nat} (hi : i < L.length) (hk : L[i].k = 3) (h : Kn L S i) (ha : Kn L S L[i].a.toNat) : Kn L S L[i].b.toNat
  | pair {i : Nat} (hi : i < L.length) (hk : L[i].k = 2 ∨ L[i].k = 3) (ha : Kn L S L[i].a.toNat) (hb : Kn L S L[i].b.toNat) : Kn L S i
  | key {i : Nat} (hi : i < L.length) (hk : L[i].k = 4) (ha : Kn L S L[i].a.toNat) : Kn L S i

theorem Kn.mono {L : List Th} {S S' : Int → Prop} (h : ∀ x, S x → S' x) {i : Nat} (k : Kn L S i) : Kn L S' i := by
  induction k with
  | base hi hs => exact .base hi (h _ hs)
  | same hi he _ ih => exact .same hi he ih
  | fst hi hk _ ih => exact .fst hi hk ih
  | snd hi hk _ ih => exact .snd hi hk ih
  | opened hi hk _ _ ih ih' => exact .opened hi hk ih ih'
  | pair hi hk _ _ ih ih' => exact .pair hi hk ih ih'
  | key hi hk _ ih => exact .key hi hk ih

/-- What all that is known tells is known. -/
theorem Kn.bind {L : List Th} {S S' : Int → Prop} (h : ∀ i : Nat, S' i → Kn L S i) {i : Nat} (k : Kn L S' i) : Kn L S i := by
  induction k with
  | base hi hs => exact h _ hs
  | same hi he _ ih => exact .same hi he ih
  | fst hi hk _ ih => exact .fst hi hk ih
  | snd hi hk _ ih => exact .snd hi hk ih
  | opened hi hk _ _ ih ih' => exact .opened hi hk ih ih'
  | pair hi hk _ _ ih ih' => exact .pair hi hk ih ih'
  | key hi hk _ ih => exact .key hi hk ih

theorem Kn.none {L : List Th} {i : Nat} (k : Kn L (fun _ => False) i) : False := by
  induction k with
  | base hi hs => exact hs
  | same hi he _ ih => exact ih
  | fst hi hk _ ih => exact ih
  | snd hi hk _ ih => exact ih
  | opened hi hk _ _ ih ih' => exact ih
  | pair hi hk _ _ ih ih' => exact ih
  | key hi hk _ ih => exact ih

/-! ### the rows of what is known -/
section
variable {L : List Th} {ks : List Bool} {S : Int → Prop}

theorem hasF_lt (hl : ks.length = L.length) {i : Nat} (h : hasF L ks i = true) : FI L i < L.length := by
  unfold hasF at h
  rcases Nat.lt_or_ge (FI L i) ks.length with g | g
  · omega
  · rw [List.getD_eq_getElem?_getD, List.getElem?_eq_none g] at h; cases h
theorem hasF_learn (d i : Nat) (hd : FI L d < ks.length) : hasF L (learnF L ks d) i = (decide (FI L i = FI L d) || hasF L ks i) := by
  unfold hasF learnF
  rw [List.getD_eq_getElem?_getD, List.getElem?_set, List.getD_eq_getElem?_getD]
  by_cases e : FI L d = FI L i
  · rw [if_pos e, if_pos hd]; simp [e]
  · rw [if_neg e]; simp [Ne.symm e]
theorem learnF_len (d : Nat) : (learnF L ks d).length = ks.length := by simp [learnF]
theorem learnF_same (d : Nat) (h : hasF L ks d = true) : learnF L ks d = ks := by
  unfold learnF
  unfold hasF at h
  apply List.ext_getElem?
  intro i
  rw [List.getElem?_set]
  split
  · rename_i e
    subst e
    split
    · rename_i hl
      rw [List.getD_eq_getElem?_getD, List.getElem?_eq_getElem hl] at h
      rw [List.getElem?_eq_getElem hl]
      simpa using h.symm
    · rename_i hl; rw [List.getElem?_eq_none (by omega)]
  · rfl

def SoundK (L : List Th) (S : Int → Prop) (ks : List Bool) : Prop := ks.length = L.length ∧ ∀ i, i < L.length → hasF L ks i = true → Kn L S i
theorem FI_lt {i : Nat} (hi : i < L.length) : FI L i < L.length := by obtain ⟨_, _, h⟩ := firstsF_at L hi; omega
theorem SoundK.learn (s : SoundK L S ks) {d : Nat} (hd : d < L.length) (hk : Kn L S d) : SoundK L S (learnF L ks d) := by
  refine ⟨by rw [learnF_len]; exact s.1, fun i hi h => ?_⟩
  rw [hasF_learn d i (by rw [s.1]; exact FI_lt hd)] at h
  simp only [Bool.or_eq_true, decide_eq_true_eq] at h
  rcases h with h | h
  · exact .same hi h hk
  · exact s.2 i hi h

theorem ok_ab (hg : GoodT L) {i : Nat} (hi : i < L.length) : (L[i].k = 2 ∨ L[i].k = 3 ∨ L[i].k = 4 → L[i].a.toNat < i ∧ 0 ≤ L[i].a) ∧ (L[i].k = 2 ∨ L[i].k = 3 → L[i].b.toNat < i ∧ 0 ≤ L[i].b) ∧ (L[i].k = 1 ∨ L[i].k = 2 ∨ L[i].k = 3 ∨ L[i].k = 4) := by
  have hx := hg.1 i hi
  generalize L[i] = x at hx
  unfold Th.ok at hx
  by_cases k1 : x.k = 1
  · simp [k1]
  by_cases k2 : x.k = 2
  · rw [if_neg k1, if_pos k2] at hx
    simp only [belowB, Bool.and_eq_true, decide_eq_true_eq] at hx
    exact ⟨fun _ => by omega, fun _ => by omega, .inr (.inl k2)⟩
  by_cases k3 : x.k = 3
  · rw [if_neg k1, if_neg k2, if_pos k3] at hx
    simp only [belowB, Bool.and_eq_true, decide_eq_true_eq] at hx
    exact ⟨fun _ => by omega, fun _ => by omega, .inr (.inr (.inl k3))⟩
  by_cases k4 : x.k = 4
  · rw [if_neg k1, if_neg k2, if_neg k3, if_pos k4] at hx
    simp only [belowB, Bool.and_eq_true, decide_eq_true_eq] at hx
    exact ⟨fun _ => by omega, fun h => by omega, .inr (.inr (.inr k4))⟩
  · rw [if_neg k1, if_neg k2, if_neg k3, if_neg k4] at hx; cases hx

theorem SoundK.step (hg : GoodT L) (s : SoundK L S ks) {i : Nat} (hi : i < L.length) : SoundK L S (stepF L ks L[i] i).1 := by
  obtain ⟨ha, hb, _⟩ := ok_ab hg hi
  unfold stepF
  split
  · rename_i h
    have hki := s.2 i hi h
    split
    · rename_i k2
      have a1 := ha (.inl k2)
      have b1 := hb (.inl k2)
      exact (s.learn (by omega) (.fst hi k2 hki)).learn (by omega) (.snd hi k2 hki)
    · split
      · rename_i k3
        have a1 := ha (.inr (.inl k3.1))
        have b1 := hb (.inr k3.1)
        exact s.learn (by omega) (.opened hi k3.1 hki (s.2 _ (by omega) k3.2))
      · exact s
  · split
    · rename_i k
      split
      · rename_i h2
        have a1 := ha (by rcases k with k | k; exact .inl k; exact .inr (.inl k))
        have b1 := hb k
        exact s.learn hi (.pair hi k (s.2 _ (by omega) h2.1) (s.2 _ (by omega) h2.2))
      · exact s
    · split
      · rename_i k4
        split
        · rename_i h2
          have a1 := ha (.inr (.inr k4))
          exact s.learn hi (.key hi k4 (s.2 _ (by omega) h2))
        · exact s
      · exact s

/-- How much is not known. -/
def leftK (ks : List Bool) : Nat := ks.countP (fun b => !b)
theorem leftK_set (ks : List Bool) (d : Nat) : leftK (ks.set d true) ≤ leftK ks ∧ (ks.getD d false = false → d < ks.length → leftK (ks.set d true) < leftK ks) := by
  unfold leftK
  induction ks generalizing d with
  | nil => simp
  | cons b ks ih =>
    cases d with
    | zero => cases b <;> simp
    | succ d =>
      obtain ⟨h1, h2⟩ := ih d
      simp only [List.set_cons_succ, List.countP_cons, List.getD_cons_succ, List.length_cons]
      refine ⟨by omega, fun h3 h4 => ?_⟩
      have := h2 h3 (by omega)
      omega
theorem leftK_learn (hl : ks.length = L.length) {d : Nat} (hd : d < L.length) : leftK (learnF L ks d) ≤ leftK ks ∧ (hasF L ks d = false → leftK (learnF L ks d) < leftK ks) := by
  obtain ⟨h1, h2⟩ := leftK_set ks (FI L d)
  exact ⟨h1, fun h => h2 h (by rw [hl]; exact FI_lt hd)⟩

theorem stepF_len (x : Th) (i : Nat) : (stepF L ks x i).1.length = ks.length := by
  unfold stepF
  repeat' split
  all_goals simp [learnF_len]

theorem step_left (hg : GoodT L) (hl : ks.length = L.length) {i : Nat} (hi : i < L.length) (h : (stepF L ks L[i] i).2 = true) : leftK (stepF L ks L[i] i).1 < leftK ks := by
  obtain ⟨ha, hb, _⟩ := ok_ab hg hi
  revert h
  unfold stepF
  split
  · rename_i hh
    split
    · rename_i k2
      have a1 := ha (.inl k2)
      have b1 := hb (.inl k2)
      intro h
      obtain ⟨g1, g2⟩ := leftK_learn (L := L) (ks := ks) hl (d := L[i].a.toNat) (by omega)
      obtain ⟨g3, g4⟩ := leftK_learn (L := L) (ks := learnF L ks L[i].a.toNat) (by rw [learnF_len]; exact hl) (d := L[i].b.toNat) (by omega)
      simp only [Bool.or_eq_true, Bool.not_eq_true'] at h
      rcases h with h | h
      · have := g2 h; simp only; omega
      · have := g4 h; simp only; omega
    · split
      · rename_i k3
        have b1 := hb (.inr k3.1)
        intro h
        obtain ⟨g1, g2⟩ := leftK_learn (L := L) (ks := ks) hl (d := L[i].b.toNat) (by omega)
        exact g2 (by simpa using h)
      · intro h; cases h
  · rename_i hh
    have hh' : hasF L ks i = false := by simpa using hh
    obtain ⟨g1, g2⟩ := leftK_learn (L := L) (ks := ks) hl hi
    split
    · split
      · intro _; exact g2 hh'
      · intro h; cases h
    · split
      · split
        · intro _; exact g2 hh'
        · intro h; cases h
      · intro h; cases h

theorem learn_mono (hl : ks.length = L.length) {d i : Nat} (hd : d < L.length) (h : hasF L ks i = true) : hasF L (learnF L ks d) i = true := by
  rw [hasF_learn d i (by rw [hl]; exact FI_lt hd), h]; simp
theorem step_mono (hg : GoodT L) (hl : ks.length = L.length) {i j : Nat} (hi : i < L.length) (h : hasF L ks j = true) : hasF L (stepF L ks L[i] i).1 j = true := by
  obtain ⟨ha, hb, _⟩ := ok_ab hg hi
  unfold stepF
  split
  · split
    · rename_i k2
      have a1 := ha (.inl k2)
      have b1 := hb (.inl k2)
      exact learn_mono (by rw [learnF_len]; exact hl) (by omega) (learn_mono hl (by omega) h)
    · split
      · rename_i k3
        have b1 := hb (.inr k3.1)
        exact learn_mono hl (by omega) h
      · exact h
  · split
    · split
      · exact learn_mono hl hi h
      · exact h
    · split
      · split
        · exact learn_mono hl hi h
        · exact h
      · exact h

/-- Nothing more is learnt of i. -/
theorem step_done (hg : GoodT L) (hl : ks.length = L.length) {i : Nat} (hi : i < L.length) (h : (stepF L ks L[i] i).2 = false) : (stepF L ks L[i] i).1 = ks ∧
    (hasF L ks i = true → L[i].k = 2 → hasF L ks L[i].a.toNat = true ∧ hasF L ks L[i].b.toNat = true) ∧
    (hasF L ks i = true → L[i].k = 3 → hasF L ks L[i].a.toNat = true → hasF L ks L[i].b.toNat = true) ∧
    (L[i].k = 2 ∨ L[i].k = 3 → hasF L ks L[i].a.toNat = true → hasF L ks L[i].b.toNat = true → hasF L ks i = true) ∧
    (L[i].k = 4 → hasF L ks L[i].a.toNat = true → hasF L ks i = true) := by
  obtain ⟨ha, hb, _⟩ := ok_ab hg hi
  generalize hx : L[i] = x at h ha hb
  unfold stepF at h ⊢
  by_cases hh : hasF L ks i = true
  · rw [if_pos hh] at h ⊢
    by_cases k2 : x.k = 2
    · rw [if_pos k2] at h ⊢
      simp only [Bool.or_eq_false_iff, Bool.not_eq_false'] at h
      have e1 := learnF_same (L := L) (ks := ks) _ h.1
      rw [e1] at h
      have e2 := learnF_same (L := L) (ks := ks) _ h.2
      refine ⟨by simp only [e1, e2], fun _ _ => h, fun _ k3 => by omega, fun _ _ _ => hh, fun k4 => by omega⟩
    · rw [if_neg k2] at h ⊢
      by_cases k3 : x.k = 3 ∧ hasF L ks x.a.toNat = true
      · rw [if_pos k3] at h ⊢
        have e1 : hasF L ks x.b.toNat = true := by simpa using h
        exact ⟨learnF_same _ e1, fun _ k => absurd k k2, fun _ _ _ => e1, fun _ _ _ => hh, fun _ _ => hh⟩
      · rw [if_neg k3]
        exact ⟨rfl, fun _ k => absurd k k2, fun _ k a => absurd ⟨k, a⟩ k3, fun _ _ _ => hh, fun _ _ => hh⟩
  · rw [if_neg hh] at h ⊢
    by_cases k23 : x.k = 2 ∨ x.k = 3
    · rw [if_pos k23] at h ⊢
      by_cases h2 : hasF L ks x.a.toNat = true ∧ hasF L ks x.b.toNat = true
      · rw [if_pos h2] at h; cases h
      · rw [if_neg h2]
        exact ⟨rfl, fun q => absurd q hh, fun q => absurd q hh, fun _ a b => absurd ⟨a, b⟩ h2, fun k4 => by omega⟩
    · rw [if_neg k23] at h ⊢
      by_cases k4 : x.k = 4
      · rw [if_pos k4] at h ⊢
        by_cases h2 : hasF L ks x.a.toNat = true
        · rw [if_pos h2] at h; cases h
        · rw [if_neg h2]
          exact ⟨rfl, fun q => absurd q hh, fun q => absurd q hh, fun k => absurd k k23, fun _ a => absurd a h2⟩
      · rw [if_neg k4]
        exact ⟨rfl, fun q => absurd q hh, fun q => absurd q hh, fun k => absurd k k23, fun k => absurd k k4⟩

/-- Closed: all that can be known is known. -/
theorem closed_all (hg : GoodT L) (hl : ks.length = L.length) (hb : ∀ i : Nat, i < L.length → S i → hasF L ks i = true) (hc : ∀ i (hi : i < L.length), (stepF L ks L[i] i).2 = false) {i : Nat} (k : Kn L S i) : hasF L ks i = true := by
  induction k with
  | base hi hs => exact hb _ hi hs
  | same hi he _ ih => unfold hasF at *; rw [he]; exact ih
  | fst hi hk _ ih => exact ((step_done hg hl hi (hc _ hi)).2.1 ih hk).1
  | snd hi hk _ ih => exact ((step_done hg hl hi (hc _ hi)).2.1 ih hk).2
  | opened hi hk _ _ ih ih' => exact (step_done hg hl hi (hc _ hi)).2.2.1 ih hk ih'
  | pair hi hk _ _ ih ih' => exact (step_done hg hl hi (hc _ hi)).2.2.2.1 hk ih ih'
  | key hi hk _ ih => exact (step_done hg hl hi (hc _ hi)).2.2.2.2 hk ih
end
end Go.Bb
