/- '==' on structs and arrays of integers and texts; map keys. -/
import Derived.Test.YtgoifophjcbpaaaBbC
import Derived.ChangeKeysEq
namespace Go.Bb
set_option linter.unusedSimpArgs false
set_option linter.unusedVariables false

theorem leavesOk_length : ∀ {ks : List (Option IntKind)} {vs : List Value}, leavesOk ks vs = true → vs.length = ks.length
  | [], [], _ => rfl
  | [], _ :: _, h => by simp [leavesOk] at h
  | _ :: _, [], h => by simp [leavesOk] at h
  | k :: ks, v :: vs, h => by simp [leavesOk] at h; simp [leavesOk_length h.2]

theorem leavesOk_append : ∀ (k1 k2 : List (Option IntKind)) (vs : List Value), leavesOk (k1 ++ k2) vs = true ↔ leavesOk k1 (vs.take k1.length) = true ∧ leavesOk k2 (vs.drop k1.length) = true
  | [], k2, vs => by simp [leavesOk]
  | k :: k1, k2, [] => by simp [leavesOk]
  | k :: k1, k2, v :: vs => by simp [leavesOk, leavesOk_append k1 k2 vs, and_assoc]

theorem leavesEq_append : ∀ (n : Nat) (a b : List Value), a.length = b.length → leavesEq a b = (leavesEq (a.take n) (b.take n) && leavesEq (a.drop n) (b.drop n))
  | 0, a, b, _ => by simp [leavesEq]
  | n + 1, [], [], _ => by simp [leavesEq]
  | n + 1, x :: a, y :: b, h => by
    simp only [List.length_cons, Nat.add_right_cancel_iff] at h
    simp only [leavesEq, List.take_succ_cons, List.drop_succ_cons, leavesEq_append n a b h, Bool.and_assoc]

section
variable {P : Program}

theorem aggT_struct {t : TypeId} {fs : Array Field} (h : P.underlying t = some (.struct fs)) : aggT P t = some true := by simp [aggT, h]
theorem aggT_array {t : TypeId} {n : Nat} {e : TypeId} (h : P.underlying t = some (.array n e)) : aggT P t = some true := by simp [aggT, h]

theorem sizeT_of_underlying {t : TypeId} {d : TypeDesc} (h : P.underlying t = some d) : ∃ n, sizeT P t = some n := by
  unfold sizeT
  unfold Program.underlying at h
  cases e : P.info? t with
  | none => simp [e] at h
  | some i => exact ⟨i.size, rfl⟩

/-- What equality tells of two values of a plain type. -/
def EqOk (P : Program) (d : Nat) : Prop := ∀ (t : TypeId) (ks : List (Option IntKind)), leavesT P d t = some ks → ∀ (D : Nat), d ≤ D → ∀ (w : World),
  (aggT P t = some true → ∀ xs ys : Array Value, leavesOk ks xs.toList = true → leavesOk ks ys.toList = true → (Op.equalIn D t (.agg xs) (.agg ys)).run P w = .ok (leavesEq xs.toList ys.toList) w) ∧
  (aggT P t = some false → ∃ k, ks = [k] ∧ ∀ a b, leafOk k a = true → leafOk k b = true → (Op.equalIn D t a b).run P w = .ok (leafEq a b) w)

theorem eq_step {d : Nat} (IH : EqOk P d) {t : TypeId} {ks : List (Option IntKind)} (hl : leavesT P d t = some ks) (hz : sizeT P t = some ks.length) {D : Nat} (hD : d ≤ D) (xs ys : Array Value) (off : Nat)
    (hx : leavesOk ks ((xs.toList.drop off).take ks.length) = true) (hy : leavesOk ks ((ys.toList.drop off).take ks.length) = true) (w : World) :
    ∃ a b, (part t xs off).run P w = .ok a w ∧ (part t ys off).run P w = .ok b w ∧ (Op.equalIn D t a b).run P w = .ok (leavesEq ((xs.toList.drop off).take ks.length) ((ys.toList.drop off).take ks.length)) w := by
  have hagg : ∃ q, aggT P t = some q := by
    unfold aggT
    unfold leavesT at hl
    cases d with
    | zero => simp at hl
    | succ d =>
      simp only at hl
      cases e : P.underlying t with
      | none => simp [e] at hl
      | some ty => cases ty <;> simp
  obtain ⟨q, hq⟩ := hagg
  cases q with
  | true =>
    have hk : kindT P t = some (some ks.length) := by simp [kindT, hq, hz]
    refine ⟨_, _, run_part' hk rfl, run_part' hk rfl, ?_⟩
    have := (IH t ks hl D hD w).1 hq ((xs.toList.drop off).take ks.length).toArray ((ys.toList.drop off).take ks.length).toArray (by simpa using hx) (by simpa using hy)
    simpa using this
  | false =>
    have hk : kindT P t = some none := by simp [kindT, hq, hz]
    obtain ⟨k, rfl, hr⟩ := (IH t ks hl D hD w).2 hq
    have get : ∀ zs : Array Value, leavesOk [k] ((zs.toList.drop off).take [k].length) = true → ∃ a, zs.toList[off]? = some a ∧ (zs.toList.drop off).take [k].length = [a] ∧ leafOk k a = true := by
      intro zs hz
      cases e : zs.toList.drop off with
      | nil => simp [e, leavesOk] at hz
      | cons a r =>
        simp [e, leavesOk] at hz
        refine ⟨a, ?_, by simp, hz⟩
        have := congrArg (·[0]?) e
        simpa [List.getElem?_drop] using this
    obtain ⟨a, ha1, ha2, ha3⟩ := get xs hx
    obtain ⟨b, hb1, hb2, hb3⟩ := get ys hy
    refine ⟨a, b, run_part' hk ha1, run_part' hk hb1, ?_⟩
    rw [ha2, hb2, hr a b ha3 hb3]
    simp [leavesEq]

theorem eq_fields {d : Nat} (IH : EqOk P d) {D : Nat} (hD : d ≤ D) (xs ys : Array Value) (w : World) : ∀ (fs : List Field) (o : Nat) (ks : List (Option IntKind)),
    fs.foldr (fun f acc => match acc, leavesT P d f.type, sizeT P f.type with | some r, some l, some n => if f.name != "_" && l.length == n then some (l ++ r) else none | _, _, _ => none) (some []) = some ks →
    packedT P fs o = true → leavesOk ks (xs.toList.drop o) = true → leavesOk ks (ys.toList.drop o) = true →
    (Op.eqFields D xs ys fs).run P w = .ok (leavesEq (xs.toList.drop o) (ys.toList.drop o)) w
  | [], o, ks, hk, _, hx, hy => by
    simp at hk; subst hk
    have h1 : xs.toList.drop o = [] := List.eq_nil_of_length_eq_zero (by simpa using leavesOk_length hx)
    have h2 : ys.toList.drop o = [] := List.eq_nil_of_length_eq_zero (by simpa using leavesOk_length hy)
    rw [h1, h2]
    simp [Op.eqFields, leavesEq]
  | f :: fs, o, ks, hk, hp, hx, hy => by
    simp only [List.foldr_cons] at hk
    split at hk
    · rename_i r l n hr hl hn
      split at hk
      · rename_i hc
        simp only [Option.some.injEq] at hk
        simp only [Bool.and_eq_true, bne_iff_ne, beq_iff_eq] at hc
        obtain ⟨hname, hlen⟩ := hc
        subst hk
        simp only [packedT, hn, Bool.and_eq_true, beq_iff_eq] at hp
        obtain ⟨ho, hp⟩ := hp
        rw [leavesOk_append] at hx hy
        obtain ⟨a, b, p1, p2, p3⟩ := eq_step IH hl (by rw [hn, hlen]) hD xs ys o hx.1 hy.1 w
        have hrest := eq_fields IH hD xs ys w fs (o + n) r hr hp (by rw [← hlen]; simpa [Nat.add_comm] using hx.2) (by rw [← hlen]; simpa [Nat.add_comm] using hy.2)
        simp only [Op.eqFields, Sem.run_ite, Sem.run_bind, ho, p1, p2, p3, Result.andThen_ok]
        rw [if_pos hname]
        have hsplit := leavesEq_append l.length (xs.toList.drop o) (ys.toList.drop o) (by
          have h1 := leavesOk_length hx.2; have h2 := leavesOk_length hy.2
          have h3 := leavesOk_length hx.1; have h4 := leavesOk_length hy.1
          simp at h1 h2 h3 h4 ⊢; omega)
        rw [hsplit]
        cases leavesEq ((xs.toList.drop o).take l.length) ((ys.toList.drop o).take l.length)
        · simp
        · simp only [Bool.not_true, Bool.false_eq_true, if_false, Bool.true_and, hrest]
          rw [← hlen]; simp [Nat.add_comm]
      · cases hk
    · cases hk

theorem eq_items {d : Nat} (IH : EqOk P d) {e : TypeId} {l : List (Option IntKind)} (hl : leavesT P d e = some l) (hz : sizeT P e = some l.length) {D : Nat} (hD : d ≤ D) (xs ys : Array Value) (w : World) : ∀ (n j : Nat),
    leavesOk (List.flatten (List.replicate n l)) (xs.toList.drop (j * l.length)) = true → leavesOk (List.flatten (List.replicate n l)) (ys.toList.drop (j * l.length)) = true →
    (Op.eqItems D e l.length xs ys (List.range' j n)).run P w = .ok (leavesEq (xs.toList.drop (j * l.length)) (ys.toList.drop (j * l.length))) w
  | 0, j, hx, hy => by
    have h1 : xs.toList.drop (j * l.length) = [] := List.eq_nil_of_length_eq_zero (by simpa using leavesOk_length hx)
    have h2 : ys.toList.drop (j * l.length) = [] := List.eq_nil_of_length_eq_zero (by simpa using leavesOk_length hy)
    rw [h1, h2]
    simp [Op.eqItems, leavesEq]
  | n + 1, j, hx, hy => by
    simp only [List.replicate_succ, List.flatten_cons] at hx hy
    rw [leavesOk_append] at hx hy
    obtain ⟨a, b, p1, p2, p3⟩ := eq_step IH hl hz hD xs ys (j * l.length) hx.1 hy.1 w
    have hrest := eq_items IH hl hz hD xs ys w n (j + 1) (by rw [Nat.add_mul, Nat.one_mul, ← List.drop_drop]; exact hx.2) (by rw [Nat.add_mul, Nat.one_mul, ← List.drop_drop]; exact hy.2)
    simp only [List.range'_succ, Op.eqItems, Sem.run_bind, p1, p2, p3, Result.andThen_ok, Sem.run_ite]
    have hsplit := leavesEq_append l.length (xs.toList.drop (j * l.length)) (ys.toList.drop (j * l.length)) (by
      have h1 := leavesOk_length hx.2; have h2 := leavesOk_length hy.2
      have h3 := leavesOk_length hx.1; have h4 := leavesOk_length hy.1
      simp at h1 h2 h3 h4 ⊢; omega)
    rw [hsplit]
    cases leavesEq ((xs.toList.drop (j * l.length)).take l.length) ((ys.toList.drop (j * l.length)).take l.length)
    · simp
    · simp only [Bool.not_true, Bool.false_eq_true, if_false, Bool.true_and, hrest]
      rw [Nat.add_mul, Nat.one_mul]; simp [List.drop_drop, Nat.add_comm]

theorem eqOk : ∀ d, EqOk P d
  | 0 => fun t ks h => by simp [leavesT] at h
  | d + 1 => by
    intro t ks h D hD w
    obtain ⟨D, rfl⟩ : ∃ m, D = m + 1 := ⟨D - 1, by omega⟩
    have IH := eqOk d
    unfold leavesT at h
    cases e : P.underlying t with
    | none => simp [e] at h
    | some ty =>
      simp only [e] at h
      cases ty with
      | int k =>
        simp only [Option.some.injEq] at h; subst h
        exact ⟨fun ha => by simp [aggT, e] at ha, fun _ => ⟨some k, rfl, fun a b h1 h2 => leafEq_run (k := some k) e h1 h2⟩⟩
      | string =>
        simp only [Option.some.injEq] at h; subst h
        exact ⟨fun ha => by simp [aggT, e] at ha, fun _ => ⟨none, rfl, fun a b h1 h2 => leafEq_run (k := none) e h1 h2⟩⟩
      | struct fs =>
        refine ⟨fun _ xs ys hx hy => ?_, fun ha => by simp [aggT, e] at ha⟩
        simp only at h
        split at h
        · cases h
        · rename_i hc
          simp only [Bool.or_eq_true, Bool.not_eq_true', not_or, Bool.not_eq_true, Bool.not_eq_false] at hc
          have hf : P.fieldsOf t = fs := by simp [Program.fieldsOf, e]
          rw [run_equalIn_struct w D t xs ys (by rw [hf]; exact e) hc.1, hf]
          have := eq_fields IH (D := D) (by omega) xs ys w fs.toList 0 ks h hc.2 (by simpa using hx) (by simpa using hy)
          simpa using this
      | array n el =>
        refine ⟨fun _ xs ys hx hy => ?_, fun ha => by simp [aggT, e] at ha⟩
        simp only at h
        split at h
        · rename_i l m hl hm
          split at h
          · rename_i hlm
            simp only [Option.some.injEq] at h; subst h
            have hlm' : l.length = m := by simpa using hlm
            subst hlm'
            obtain ⟨i, hi, hisz⟩ : ∃ i, P.info? el = some i ∧ i.size = l.length := by
              unfold sizeT at hm
              cases e2 : P.info? el with
              | none => simp [e2] at hm
              | some i => exact ⟨i, rfl, by simpa [e2] using hm⟩
            rw [run_equalIn_array w D xs ys e hi]
            have hc : P.cellsOf el = l.length := by simp [Program.cellsOf, hi, hisz]
            rw [hc]
            have := eq_items IH hl hm (D := D) (by omega) xs ys w n 0 (by simpa using hx) (by simpa using hy)
            simpa [List.range_eq_range'] using this
          · cases h
        · cases h
      | _ => simp at h

end
end Go.Bb
