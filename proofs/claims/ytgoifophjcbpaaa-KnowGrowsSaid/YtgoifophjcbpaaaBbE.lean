/- What changes nothing: the short operation's answer is the model's. -/
import Derived.Test.YtgoifophjcbpaaaBbD
namespace Go.Bb
set_option linter.unusedSimpArgs false
set_option linter.unusedVariables false

section
variable {P : Program} {ψ : FuncId → Option Nat} {fid : Nat → Option FuncId} {ρ : Opd → Option Value} {ev : Operand → Value} {h : Heap} {w : World}

theorem conL_ev (ha : Agree ψ ρ ev) : ∀ {xs : List Operand} {ys : List Opd} {vs : List Value}, conL ψ xs = some ys → allV ρ ys = some vs → xs.map ev = vs
  | [], ys, vs, h1, h2 => by simp [conL] at h1; subst h1; simp [allV] at h2; subst h2; rfl
  | x :: xs, ys, vs, h1, h2 => by
    simp only [conL] at h1
    split at h1
    · rename_i y ys' hy hys
      simp only [Option.some.injEq] at h1; subst h1
      simp only [allV] at h2
      split at h2
      · rename_i v vs' hv hvs
        simp only [Option.some.injEq] at h2; subst h2
        simp [ha x y v hy hv, conL_ev ha hys hvs]
      · cases h2
    · cases h1

theorem conParts_ev (ha : Agree ψ ρ ev) {places : Nat → Option (Nat × Nat)} : ∀ {xs : List (Nat × Operand)} {ys : List (Nat × Nat × Opd)} {vs : List (Nat × Nat × Value)}, conParts ψ places xs = some ys → allP ρ ys = some vs →
    ∀ {cells : List Value} {l : List Value}, fillL cells vs = some l → Instr.fill places cells.toArray (xs.map fun (i, x) => (i, ev x)) = some l.toArray
  | [], ys, vs, h1, h2, cells, l, h3 => by simp [conParts] at h1; subst h1; simp [allP] at h2; subst h2; simp [fillL] at h3; subst h3; simp [Instr.fill]
  | (i, x) :: xs, ys, vs, h1, h2, cells, l, h3 => by
    simp only [conParts] at h1
    split at h1
    · rename_i o s y ys' hp hy hys
      simp only [Option.some.injEq] at h1; subst h1
      simp only [allP] at h2
      split at h2
      · rename_i v vs' hv hvs
        simp only [Option.some.injEq] at h2; subst h2
        simp only [fillL] at h3
        split at h3
        · rename_i hc
          obtain ⟨hsz, hle⟩ := hc
          have he := ha x y v hy hv
          simp only [List.map_cons, Instr.fill, hp, he]
          have hcond : (v.cells.size != s || decide (o + v.cells.size > cells.toArray.size)) = false := by
            simp [hsz]; omega
          have := conParts_ev ha hys hvs h3
          have hfold : (v.cells.zipIdx.foldl (fun cs (c, j) => cs.setIfInBounds (o + j) c) cells.toArray) = (cells.take o ++ v.cells.toList ++ cells.drop (o + s)).toArray := by
            rw [← hsz] at hle ⊢
            clear hcond this h3 he hv hy hp
            generalize v.cells = arr at *
            obtain ⟨l0⟩ := arr
            simp only [List.size_toArray] at hle
            rw [← Array.foldl_toList, Array.toList_zipIdx]
            simp only [List.size_toArray]
            have key : ∀ (m : List Value) (k : Nat) (cs : List Value), o + k + m.length ≤ cs.length →
                List.foldl (fun (cs : Array Value) (x : Value × Nat) => cs.setIfInBounds (o + x.2) x.1) cs.toArray (m.zipIdx k) = (cs.take (o + k) ++ m ++ cs.drop (o + k + m.length)).toArray := by
              intro m
              induction m with
              | nil => intro k cs hle; simp
              | cons a m ih =>
                intro k cs hle
                simp only [List.length_cons] at hle
                simp only [List.zipIdx_cons, List.foldl_cons, List.setIfInBounds_toArray]
                rw [ih (k + 1) _ (by simp; omega)]
                congr 1
                apply List.ext_getElem?
                intro q
                simp only [List.getElem?_append, List.length_append, List.length_take, List.length_set, List.length_cons, List.getElem?_take, List.getElem?_drop, List.getElem?_set]
                grind
            have := key l0 0 cells (by simpa using hle)
            simpa using this
          rw [if_neg (by simpa using hcond)]
          rw [hfold]
          exact this
        · cases h3
      · cases h2
    · cases h1

theorem bytesV_run (f : Value → ByteArray → Sem (ForInStep ByteArray)) (hf : ∀ n s, f (.int .u8 n) s = pure (.yield (s.push (UInt8.ofNat n.toNat)))) : ∀ (l : List Value) (bs : List UInt8) (s : ByteArray), bytesV l = some bs →
    (forIn l s f).run P w = .ok ⟨s.data ++ bs.toArray⟩ w
  | [], bs, s, e => by simp [bytesV] at e; subst e; simp
  | v :: l, bs, s, e => by
    unfold bytesV at e
    split at e
    · simp_all
    · rename_i n r hvl
      simp only [List.cons.injEq] at hvl
      obtain ⟨rfl, rfl⟩ := hvl
      simp only [Option.map_eq_some_iff] at e
      obtain ⟨bs', hb, rfl⟩ := e
      simp only [List.forIn_cons, Sem.run_bind, hf, Sem.run_pure, Result.andThen_ok]
      rw [bytesV_run f hf _ bs' _ hb]
      simp [ByteArray.push]
    · cases e

theorem bts (l : List Value) (bs : List UInt8) (a : Addr) (n c : Nat) (hs : Sat h w) (hl : hcells h a n = some l) (e : bytesV l = some bs) :
    (Conv.bytesToString (.slice (some a) n c)).run P w = .ok (.string ⟨bs.toArray⟩) w := by
  unfold Conv.bytesToString
  simp only [Sem.run_bind, run_loadCells hs hl, Result.andThen_ok, List.forIn_toArray]
  rw [bytesV_run _ (fun n s => rfl) l bs _ e]
  have he : ByteArray.empty.data = #[] := rfl
  simp [he]

theorem oOpt_none {o : Option Operand} {y : Option Opd} (h1 : conOpt ψ o = some y) (h2 : o = none) : y = none := by subst h2; simp [conOpt] at h1; exact h1.symm

theorem conOpt_cases (ha : Agree ψ ρ ev) {o : Option Operand} {y : Option Opd} (h1 : conOpt ψ o = some y) :
    (o = none ∧ y = none) ∨ (∃ x z, o = some x ∧ y = some z ∧ ∀ v, ρ z = some v → ev x = v) := by
  cases o with
  | none => simp [conOpt] at h1; exact .inl ⟨rfl, h1.symm⟩
  | some x =>
    simp only [conOpt, Option.map_eq_some_iff] at h1
    obtain ⟨z, hz, rfl⟩ := h1
    exact .inr ⟨x, z, rfl, rfl, fun v hv => ha x z v hz hv⟩

theorem sliceBound_run {i : Int} {k : IntKind} {y n : Nat} {code : BoundsCode} (h : (if 0 ≤ i ∧ i ≤ y then some i.toNat else none) = some n) :
    (Instr.sliceBound (.int k i) y code).run P w = .ok n w := by
  split at h
  · rename_i hc
    simp only [Option.some.injEq] at h
    simp [Instr.sliceBound, asIntOf, hc, h]
  · cases h

theorem bndV_run (ha : Agree ψ ρ ev) {o : Option Operand} {y : Option Opd} (h1 : conOpt ψ o = some y) {d most n : Nat} (h2 : bndV d most (oOpt ρ y) = some n) (code : BoundsCode) :
    (match o.map ev with | some v => Instr.sliceBound v most code | none => pure d).run P w = .ok n w := by
  rcases conOpt_cases ha h1 with ⟨rfl, rfl⟩ | ⟨x, z, rfl, rfl, hv⟩
  · simp [oOpt, bndV] at h2; subst h2; rfl
  · simp only [oOpt] at h2
    cases e : ρ z with
    | none => rw [e] at h2; simp [bndV] at h2
    | some v =>
      rw [e] at h2
      cases v <;> simp only [bndV] at h2 <;> try (cases h2)
      rename_i k i
      simp only [Option.map_some, hv _ e]
      exact sliceBound_run h2

theorem bnds_run (ha : Agree ψ ρ ev) {lo hi m : Option Operand} {lo' hi' m' : Option Opd} (h1 : conOpt ψ lo = some lo') (h2 : conOpt ψ hi = some hi') (h3 : conOpt ψ m = some m') {len cap : Nat} {r : Nat × Nat × Nat}
    (hb : bnds len cap (oOpt ρ lo') (oOpt ρ hi') (oOpt ρ m') = some r) (isS : Bool) : (Instr.sliceBounds isS len cap (lo.map ev) (hi.map ev) (m.map ev)).run P w = .ok r w := by
  unfold bnds at hb
  split at hb
  · cases hb
  · rename_i mm hm
    split at hb
    · cases hb
    · rename_i hh hhi
      split at hb
      · cases hb
      · rename_i ll hlo
        simp only [Option.some.injEq] at hb
        subst hb
        have em := bndV_run (P := P) (w := w) ha h3 hm (if isS then .slice3Acap else .slice3Alen)
        have hm3 : (oOpt ρ m').isSome = m.isSome := by
          rcases conOpt_cases ha h3 with ⟨rfl, rfl⟩ | ⟨x, z, rfl, rfl, _⟩ <;> rfl
        have hh3 : (oOpt ρ hi').isNone = hi.isNone := by
          rcases conOpt_cases ha h2 with ⟨rfl, rfl⟩ | ⟨x, z, rfl, rfl, _⟩ <;> rfl
        rw [hm3, hh3] at hhi
        have el := fun code => bndV_run (P := P) (w := w) ha h1 hlo code
        cases m with
        | none =>
          simp only [Option.isSome_none, Bool.false_and, Bool.false_eq_true, if_false] at hhi
          have eh := bndV_run (P := P) (w := w) ha h2 hhi (if isS then .sliceAcap else .sliceAlen)
          cases hi <;> cases lo <;> simp_all [Instr.sliceBounds]
        | some x =>
          cases hi with
          | none => simp at hhi
          | some y =>
            simp only [Option.isNone_some, Bool.and_false, Bool.false_eq_true, if_false] at hhi
            have eh := bndV_run (P := P) (w := w) ha h2 hhi .slice3B
            cases lo <;> simp_all [Instr.sliceBounds]
end
end Go.Bb
