/- Reckoning: reading and writing memory. -/
import Derived.Test.YtgoifophjcbpaaaBbXm
namespace Go.Bb
set_option linter.unusedVariables false
set_option linter.unusedSimpArgs false

theorem takeE_some : ∀ {l : List Value} {n : Nat} {x : List Value}, takeE l n = some x → x = l.take n ∧ n ≤ l.length
  | l, 0, x, h => by simp [takeE] at h; subst h; simp
  | [], n + 1, x, h => by simp [takeE] at h
  | v :: r, n + 1, x, h => by
    simp only [takeE, Option.map_eq_some_iff] at h
    obtain ⟨y, hy, rfl⟩ := h
    obtain ⟨rfl, h2⟩ := takeE_some hy
    simp; omega

theorem putE_nil (l : List Value) (i : Nat) : putE l i [] = some l := by cases l <;> rfl
theorem putE_none (i : Nat) (u : Value) (us : List Value) : putE [] i (u :: us) = none := rfl
theorem putE_zero (v : Value) (r : List Value) (u : Value) (us : List Value) : putE (v :: r) 0 (u :: us) = (putE r 0 us).map (u :: ·) := by
  have e : putE (v :: r) 0 (u :: us) = Option.rec (motive := fun _ => Option (List Value)) none (fun z => some (u :: z)) (putE r 0 us) := rfl
  rw [e]; cases putE r 0 us <;> rfl
theorem putE_succ (v : Value) (r : List Value) (i : Nat) (u : Value) (us : List Value) : putE (v :: r) (i + 1) (u :: us) = (putE r i (u :: us)).map (v :: ·) := by
  have e : putE (v :: r) (i + 1) (u :: us) = Option.rec (motive := fun _ => Option (List Value)) none (fun z => some (v :: z)) (putE r i (u :: us)) := rfl
  rw [e]; cases putE r i (u :: us) <;> rfl
theorem putE_some : ∀ {l : List Value} {i : Nat} {us x : List Value}, putE l i us = some x → x = l.take i ++ us ++ l.drop (i + us.length) ∧ (us ≠ [] → i + us.length ≤ l.length)
  | l, i, [], x, h => by rw [putE_nil] at h; simp only [Option.some.injEq] at h; subst h; simp
  | [], i, u :: us, x, h => by rw [putE_none] at h; cases h
  | v :: r, 0, u :: us, x, h => by
    rw [putE_zero, Option.map_eq_some_iff] at h
    obtain ⟨y, hy, rfl⟩ := h
    obtain ⟨rfl, h2⟩ := putE_some hy
    refine ⟨by simp, fun _ => ?_⟩
    cases us with
    | nil => simp
    | cons a b => have := h2 (by simp); simp at this ⊢; omega
  | v :: r, i + 1, u :: us, x, h => by
    rw [putE_succ, Option.map_eq_some_iff] at h
    obtain ⟨y, hy, rfl⟩ := h
    obtain ⟨rfl, h2⟩ := putE_some hy
    refine ⟨by rw [show i + 1 + (u :: us).length = (i + (u :: us).length) + 1 from by omega, List.drop_succ_cons]; simp, fun _ => ?_⟩
    have := h2 (by simp); simp at this ⊢; omega

section
variable {fid : Nat → Option FuncId} {r : Rr} {m : VM} {h : Heap}

theorem HR.at {p : HR fid r m h} {b : Nat} {k : Rm} {x : VB} (hk : r b = some k) (hx : m.get b = some x) : ∃ y, h k.b = some y ∧ BR fid r k x y := by
  obtain ⟨k', y, h1, h2, h3⟩ := p.blk b x hx
  rw [hk] at h1; simp only [Option.some.injEq] at h1; subst h1
  exact ⟨y, h2, h3⟩

/-- The address on the other side. -/
abbrev Rm.at (k : Rm) (a : Addr) : Addr := ⟨k.b, a.off + k.sh, none⟩

theorem cells_sim (p : HR fid r m h) {a : Addr} {n : Nat} {l : List Value} {k : Rm} (hk : r a.block = some k) (e : cellsE m a n = some l) : ∃ l', hcells h (k.at a) n = some l' ∧ All2 (VR0 fid r) l l' := by
  unfold cellsE at e
  split at e
  · cases e
  · simp only [Option.some.injEq] at e; subst e; exact ⟨[], rfl, .nil⟩
  · rename_i n hspot
    split at e
    · rename_i es vs hx
      obtain ⟨y, hy, hb⟩ := HR.at (p := p) hk hx
      cases hb with
      | cells he hp hv h0 hsz =>
        rename_i pre vs' rest
        obtain ⟨rfl, hle⟩ := takeE_some e
        have hl := hv.length
        simp only [List.length_drop] at hle
        have e1 : ((pre ++ vs' ++ rest).drop (a.off + k.sh - 0)).take (n + 1) = (vs'.drop a.off).take (n + 1) := by
          rw [Nat.sub_zero, ← hp, List.append_assoc, List.drop_append, List.drop_eq_nil_of_le (by omega), List.nil_append, Nat.add_sub_cancel, List.drop_append_of_le_length (by omega), List.take_append_of_le_length (by simp; omega)]
        refine ⟨(vs'.drop a.off).take (n + 1), ?_, (hv.drop a.off).take (n + 1)⟩
        simp only [hcells, hy]
        rw [if_pos (by simp; omega), e1]
    · cases e

theorem read_sim (p : HR fid r m h) {a : Addr} {kk : Option Nat} {v : Value} {k : Rm} (hk : r a.block = some k) (e : readE m a kk = some v) : ∃ v', readK h (k.at a) kk = some v' ∧ VR1 fid r v v' := by
  unfold readE at e
  split at e
  · split at e
    · cases e
    · split at e
      · rename_i es vs hx
        obtain ⟨y, hy, hb⟩ := HR.at (p := p) hk hx
        cases hb with
        | cells he hp hv h0 hsz =>
          rename_i pre vs' rest
          obtain ⟨v', hv', hvr⟩ := hv.get e
          have hlt : a.off < vs'.length := by rcases Nat.lt_or_ge a.off vs'.length with g | g; exact g; rw [List.getElem?_eq_none g] at hv'; cases hv'
          refine ⟨v', ?_, .one hvr⟩
          simp only [readK, hcell, hy]
          rw [if_pos (by omega), Nat.sub_zero, ← hp, List.append_assoc, List.getElem?_append_right (by omega), Nat.add_sub_cancel, List.getElem?_append_left hlt]
          exact hv'
      · cases e
  · rename_i n
    rw [Option.map_eq_some_iff] at e
    obtain ⟨l, hl, rfl⟩ := e
    obtain ⟨l', h1, h2⟩ := cells_sim p hk hl
    exact ⟨.agg l'.toArray, by simp [readK, h1], .agg (by simpa using h2)⟩

variable {h0 : Heap}

theorem HS.lt (p : HS fid h0 r m h) {b : Nat} {x : VB} (hx : m.get b = some x) : b < m.next := by
  obtain ⟨k, y, h1, _, _⟩ := p.blk b x hx
  rcases Nat.lt_or_ge b m.next with g | g
  · exact g
  · rw [p.fresh b g] at h1; cases h1

theorem HS.put (p : HS fid h0 r m h) {b : Nat} {x0 x : VB} {k : Rm} {y : Blk} (hx : m.get b = some x0) (hk : r b = some k) (hb : BR fid r k x y) : HS fid h0 r (m.set b (some x)) (h.set k.b y) := by
  have hlt := p.lt hx
  have hr := p.room
  have g := fun c => VM.get_set (m := m) (b := b) (c := c) (x := some x) (by omega)
  refine { blk := fun c z hz => ?_, inj := fun c d z w l l' hz hw hl hl' e => ?_, old := fun c z hz => ?_, own := fun c z l hz hl => ?_, fresh := p.fresh, room := p.room }
  · rw [g] at hz
    by_cases e : c = b
    · subst e
      simp only [if_true, Option.some.injEq] at hz; subst hz
      exact ⟨k, y, hk, by simp [Heap.set], hb⟩
    · rw [if_neg e] at hz
      obtain ⟨l, z', h1, h2, h3⟩ := p.blk c z hz
      refine ⟨l, z', h1, ?_, h3⟩
      simp only [Heap.set]
      rw [if_neg (fun e' => e (p.inj c b z x0 l k hz hx h1 hk e'))]
      exact h2
  · rw [g] at hz hw
    have hz' : ∃ z', m.get c = some z' := by
      by_cases e : c = b
      · subst e; exact ⟨_, hx⟩
      · rw [if_neg e] at hz; exact ⟨_, hz⟩
    have hw' : ∃ w', m.get d = some w' := by
      by_cases e : d = b
      · subst e; exact ⟨_, hx⟩
      · rw [if_neg e] at hw; exact ⟨_, hw⟩
    obtain ⟨z', hz'⟩ := hz'
    obtain ⟨w', hw'⟩ := hw'
    exact p.inj c d z' w' l l' hz' hw' hl hl' e
  · simp only [Heap.set]
    rw [if_neg (fun e => by have := p.own b x0 k hx hk; rw [← e, hz] at this; cases this)]
    exact p.old c z hz
  · rw [g] at hz
    by_cases e : c = b
    · subst e; rw [hk] at hl; simp only [Option.some.injEq] at hl; subst hl; exact p.own c x0 k hx hk
    · rw [if_neg e] at hz; exact p.own c z l hz hl

theorem HS.kill (p : HS fid h0 r m h) {b : Nat} {x0 : VB} (hx : m.get b = some x0) : HS fid h0 r (m.set b none) h := by
  have hlt := p.lt hx
  have hr := p.room
  have g := fun c => VM.get_set (m := m) (b := b) (c := c) (x := none) (by omega)
  have g' : ∀ c z, (m.set b none).get c = some z → m.get c = some z := by
    intro c z hz
    rw [g] at hz
    by_cases e : c = b
    · rw [if_pos e] at hz; cases hz
    · rw [if_neg e] at hz; exact hz
  exact { blk := fun c z hz => p.blk c z (g' c z hz), inj := fun c d z w l l' hz hw => p.inj c d z w l l' (g' c z hz) (g' d w hw), old := p.old, own := fun c z l hz => p.own c z l (g' c z hz), fresh := p.fresh, room := p.room }

/-- One block more. -/
def Rr.more (r : Rr) (n : Nat) (k : Rm) : Rr := fun c => if c = n then some k else r c
theorem Rr.le_more {r : Rr} {n : Nat} {k : Rm} (h : r n = none) : r.le (r.more n k) := by
  intro b l hl
  unfold Rr.more
  by_cases e : b = n
  · subst e; rw [h] at hl; cases hl
  · rw [if_neg e]; exact hl

theorem HS.more (p : HS fid h0 r m h) {x : VB} {k : Rm} {y : Blk} (hn : m.next ≤ 1000000000) (hd : ∀ c z l, m.get c = some z → r c = some l → l.b ≠ k.b) (hh : h0 k.b = none) (hb : BR fid (r.more m.next k) k x y) :
    HS fid h0 (r.more m.next k) (m.new x) (h.set k.b y) ∧ r.le (r.more m.next k) := by
  have hle : r.le (r.more m.next k) := Rr.le_more (p.fresh _ (Nat.le_refl _))
  have g := fun c => VM.get_new (m := m) (c := c) (x := x) hn
  have q := p.toHR.mono hle
  have hget : ∀ c, c < m.next → r.more m.next k c = r c := fun c hc => by unfold Rr.more; rw [if_neg (by omega)]
  refine ⟨{ blk := fun c z hz => ?_, inj := fun c d z w l l' hz hw hl hl' e => ?_, old := fun c z hz => ?_, own := fun c z l hz hl => ?_, fresh := fun c hc => ?_, room := ?_ }, hle⟩
  · rw [g] at hz
    by_cases e : c = m.next
    · subst e
      simp only [if_true, Option.some.injEq] at hz; subst hz
      exact ⟨k, y, by simp [Rr.more], by simp [Heap.set], hb⟩
    · rw [if_neg e] at hz
      obtain ⟨l, z', h1, h2, h3⟩ := p.blk c z hz
      refine ⟨l, z', hle _ _ h1, ?_, h3.mono hle⟩
      simp only [Heap.set]
      rw [if_neg (hd c z l hz h1)]
      exact h2
  · rw [g] at hz hw
    by_cases e1 : c = m.next
    · by_cases e2 : d = m.next
      · omega
      · rw [if_neg e2] at hw
        rw [hget d (p.lt hw)] at hl'
        subst e1
        simp only [Rr.more, if_true, Option.some.injEq] at hl; subst hl
        exact absurd e.symm (hd d w l' hw hl')
    · rw [if_neg e1] at hz
      rw [hget c (p.lt hz)] at hl
      by_cases e2 : d = m.next
      · subst e2
        simp only [Rr.more, if_true, Option.some.injEq] at hl'; subst hl'
        exact absurd e (hd c z l hz hl)
      · rw [if_neg e2] at hw
        rw [hget d (p.lt hw)] at hl'
        exact p.inj c d z w l l' hz hw hl hl' e
  · simp only [Heap.set]
    rw [if_neg (fun e => by rw [e, hh] at hz; cases hz)]
    exact p.old c z hz
  · rw [g] at hz
    by_cases e : c = m.next
    · subst e
      simp only [Rr.more, if_true, Option.some.injEq] at hl; subst hl
      exact hh
    · rw [if_neg e] at hz
      rw [hget c (p.lt hz)] at hl
      exact p.own c z l hz hl
  · have : m.next + 1 ≤ c := hc
    unfold Rr.more
    rw [if_neg (by omega)]
    exact p.fresh c (by omega)
  · show m.next + 1 ≤ 1000000001
    omega

/-- A block that is new on both sides. -/
theorem HS.alloc (p : HS fid h0 r m h) {x : VB} {k : Rm} {y : Blk} (hn : m.next ≤ 1000000000) (hf : h k.b = none) (hb : BR fid (r.more m.next k) k x y) :
    HS fid h0 (r.more m.next k) (m.new x) (h.set k.b y) ∧ r.le (r.more m.next k) := by
  refine p.more hn (fun c z l hz hl e => ?_) ?_ hb
  · obtain ⟨l', z', h1, h2, _⟩ := p.blk c z hz
    rw [hl] at h1; simp only [Option.some.injEq] at h1; subst h1
    rw [e, hf] at h2; cases h2
  · cases e : h0 k.b with
    | none => rfl
    | some z => rw [p.old _ _ e] at hf; cases hf

theorem store_sim (p : HS fid h0 r m h) {a : Addr} {us us' : List Value} {k : Rm} {m' : VM} (hk : r a.block = some k) (hu : All2 (VR0 fid r) us us') (e : storeE m a us = some m') :
    ∃ h', hstore h (k.at a) us' = some h' ∧ HS fid h0 r m' h' := by
  unfold storeE at e
  split at e
  · simp only [Option.some.injEq] at e; subst e
    cases hu
    exact ⟨h, rfl, p⟩
  · rename_i u us
    split at e
    · cases e
    · split at e
      · rename_i es vs hx
        obtain ⟨y, hy, hb⟩ := HR.at (p := p.toHR) hk hx
        cases hb with
        | cells he hp hv hz hsz =>
          rename_i pre vs' rest
          rw [Option.map_eq_some_iff] at e
          obtain ⟨x, hput, rfl⟩ := e
          obtain ⟨rfl, hle⟩ := putE_some hput
          have hle := hle (by simp)
          have hl := hv.length
          have hul := hu.length
          cases hu with
          | cons hu1 hut =>
            rename_i u' us'
            have hu : All2 (VR0 fid r) (u :: us) (u' :: us') := .cons hu1 hut
            have key : splice (pre ++ vs' ++ rest) (a.off + k.sh) (u' :: us') = pre ++ (vs'.take a.off ++ (u' :: us') ++ vs'.drop (a.off + (u' :: us').length)) ++ rest := by
              unfold splice
              rw [← hp, Nat.add_comm a.off, List.append_assoc pre, List.take_length_add_append, List.take_append_of_le_length (by omega), Nat.add_assoc, List.drop_length_add_append, List.drop_append_of_le_length (by omega)]
              simp
            refine ⟨_, ?_, p.put hx hk (.cells (pre := pre) (vs' := vs'.take a.off ++ (u' :: us') ++ vs'.drop (a.off + (u' :: us').length)) (rest := rest) he hp ?_ ?_ ?_)⟩
            · simp only [hstore, hy]
              rw [if_pos, Nat.sub_zero, key]
              simp at hle hsz ⊢
              have : us'.length = us.length := by simp at hul; omega
              omega
            · rw [hul]
              exact ((hv.take a.off).append hu).append (hv.drop _)
            · intro h00
              obtain ⟨h1, h2, h3⟩ := hz h00
              refine ⟨h1, h2, ?_⟩
              simp at hle ⊢; omega
            · simp at hle hsz hul ⊢; omega
      · cases e
end
end Go.Bb
