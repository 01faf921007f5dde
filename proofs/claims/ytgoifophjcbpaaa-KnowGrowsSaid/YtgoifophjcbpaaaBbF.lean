/- Maps: keys, what is found; and: what changes nothing tells what the model tells. -/
import Derived.Test.YtgoifophjcbpaaaBbE
namespace Go.Bb
set_option linter.unusedSimpArgs false
set_option linter.unusedVariables false

section
variable {P : Program} {ψ : FuncId → Option Nat} {fid : Nat → Option FuncId} {ρ : Opd → Option Value} {ev : Operand → Value} {h : Heap} {w : World}

def CkOk (P : Program) (d : Nat) : Prop := ∀ (t : TypeId) (ks : List (Option IntKind)), leavesT P d t = some ks → ∀ (D : Nat), d ≤ D → ∀ (em : Bool) (w : World),
  (aggT P t = some true → ∀ xs : Array Value, leavesOk ks xs.toList = true → (Instr.checkKey em D t (.agg xs)).run P w = .ok () w) ∧
  (aggT P t = some false → ∀ a, (Instr.checkKey em D t a).run P w = .ok () w)

theorem ck_step {d : Nat} (IH : CkOk P d) {t : TypeId} {ks : List (Option IntKind)} (hl : leavesT P d t = some ks) (hz : sizeT P t = some ks.length) {D : Nat} (hD : d ≤ D) (xs : Array Value) (off : Nat)
    (hx : leavesOk ks ((xs.toList.drop off).take ks.length) = true) (em : Bool) (w : World) :
    ∃ a, (part t xs off).run P w = .ok a w ∧ (Instr.checkKey em D t a).run P w = .ok () w := by
  have hagg : ∃ q, aggT P t = some q := by
    unfold aggT
    unfold leavesT at hl
    cases d with
    | zero => simp at hl
    | succ d =>
      simp only at hl
      cases e : P.underlying t with
      | none => simp [e] at hl
      | some ty => cases ty <;> simp
  obtain ⟨q, hq⟩ := hagg
  cases q with
  | true =>
    have hk : kindT P t = some (some ks.length) := by simp [kindT, hq, hz]
    exact ⟨_, run_part' hk rfl, (IH t ks hl D hD em w).1 hq ((xs.toList.drop off).take ks.length).toArray (by simpa using hx)⟩
  | false =>
    have hk : kindT P t = some none := by simp [kindT, hq, hz]
    obtain ⟨k, rfl, _⟩ := (eqOk d t ks hl D hD w).2 hq
    have : ∃ a, xs.toList[off]? = some a := by
      cases e : xs.toList.drop off with
      | nil => simp [e, leavesOk] at hx
      | cons a r => exact ⟨a, by have := congrArg (·[0]?) e; simpa [List.getElem?_drop] using this⟩
    obtain ⟨a, ha⟩ := this
    exact ⟨a, run_part' hk ha, (IH t _ hl D hD em w).2 hq a⟩

def ckFields (em : Bool) (d : Nat) (xs : Array Value) : List Field → Sem Unit
  | [] => pure ()
  | f :: fs => if f.name ≠ "_" then do
      let a ← part f.type xs f.offset
      Instr.checkKey em d f.type a
      ckFields em d xs fs
    else ckFields em d xs fs

theorem run_checkKey_struct (em : Bool) (d : Nat) (t : TypeId) (xs : Array Value) {fs : Array Field} (ht : P.underlying t = some (.struct fs)) :
    (Instr.checkKey em (d + 1) t (.agg xs)).run P w = (ckFields em d xs fs.toList).run P w := by
  simp only [Instr.checkKey, Sem.run_bind, run_underlying ht, Result.andThen_ok]
  rw [← Array.forIn_toList]
  generalize fs.toList = l
  clear ht
  induction l generalizing w with
  | nil => simp [ckFields]
  | cons f l ih =>
    simp only [List.forIn_cons, ckFields, Sem.run_bind, Sem.run_ite]
    split
    · generalize (part f.type xs f.offset).run P w = r1
      cases r1 with
      | ok a w1 =>
        simp only [Result.andThen_ok]
        generalize (Instr.checkKey em d f.type a).run P w1 = r2
        cases r2 with
        | ok b w2 => simp only [Result.andThen_ok, Sem.run_pure]; have := ih (w := w2); simpa using this
        | halt x w2 => simp
      | halt x w1 => simp
    · simp only [Sem.run_pure, Result.andThen_ok]; have := ih (w := w); simpa using this

def ckItems (em : Bool) (d : Nat) (e : TypeId) (c : Nat) (xs : Array Value) : List Nat → Sem Unit
  | [] => pure ()
  | i :: is => do
      let a ← part e xs (i * c)
      Instr.checkKey em d e a
      ckItems em d e c xs is

theorem run_checkKey_array (em : Bool) (d : Nat) (t e : TypeId) (n c : Nat) (xs : Array Value) (ht : P.underlying t = some (.array n e)) (hz : sizeT P e = some c) :
    (Instr.checkKey em (d + 1) t (.agg xs)).run P w = (ckItems em d e c xs (List.range' 0 n)).run P w := by
  simp only [Instr.checkKey, Sem.run_bind, run_underlying ht, Result.andThen_ok]
  simp only [Std.Legacy.Range.forIn_eq_forIn_range', Std.Legacy.Range.size, Nat.sub_zero, Nat.add_one_sub_one, Nat.div_one]
  generalize List.range' 0 n = is
  induction is generalizing w with
  | nil => simp [ckItems]
  | cons j is ih =>
    simp only [List.forIn_cons, ckItems, Sem.run_bind, run_sizeOf' hz, Result.andThen_ok]
    generalize (part e xs (j * c)).run P w = r1
    cases r1 with
    | ok a w1 =>
      simp only [Result.andThen_ok]
      generalize (Instr.checkKey em d e a).run P w1 = r2
      cases r2 with
      | ok b w2 => simp only [Result.andThen_ok, Sem.run_pure]; have := ih (w := w2); simpa using this
      | halt x w2 => simp
    | halt x w1 => simp

theorem ck_fields {d : Nat} (IH : CkOk P d) {D : Nat} (hD : d ≤ D) (xs : Array Value) (em : Bool) (w : World) : ∀ (fs : List Field) (o : Nat) (ks : List (Option IntKind)),
    fs.foldr (fun f acc => match acc, leavesT P d f.type, sizeT P f.type with | some r, some l, some n => if f.name != "_" && l.length == n then some (l ++ r) else none | _, _, _ => none) (some []) = some ks →
    packedT P fs o = true → leavesOk ks (xs.toList.drop o) = true → (ckFields em D xs fs).run P w = .ok () w
  | [], o, ks, hk, _, hx => by simp [ckFields]
  | f :: fs, o, ks, hk, hp, hx => by
    simp only [List.foldr_cons] at hk
    split at hk
    · rename_i r l n hr hl hn
      split at hk
      · rename_i hc
        simp only [Option.some.injEq] at hk
        simp only [Bool.and_eq_true, bne_iff_ne, beq_iff_eq] at hc
        obtain ⟨hname, hlen⟩ := hc
        subst hk
        simp only [packedT, hn, Bool.and_eq_true, beq_iff_eq] at hp
        obtain ⟨ho, hp⟩ := hp
        rw [leavesOk_append] at hx
        obtain ⟨a, p1, p2⟩ := ck_step IH hl (by rw [hn, hlen]) hD xs o hx.1 em w
        have hrest := ck_fields IH hD xs em w fs (o + n) r hr hp (by rw [← hlen]; simpa [Nat.add_comm] using hx.2)
        simp only [ckFields, Sem.run_ite, Sem.run_bind, ho, p1, p2, Result.andThen_ok]
        rw [if_pos hname]; exact hrest
      · cases hk
    · cases hk

theorem ck_items {d : Nat} (IH : CkOk P d) {e : TypeId} {l : List (Option IntKind)} (hl : leavesT P d e = some l) (hz : sizeT P e = some l.length) {D : Nat} (hD : d ≤ D) (xs : Array Value) (em : Bool) (w : World) : ∀ (n j : Nat),
    leavesOk (List.flatten (List.replicate n l)) (xs.toList.drop (j * l.length)) = true → (ckItems em D e l.length xs (List.range' j n)).run P w = .ok () w
  | 0, j, hx => by simp [ckItems]
  | n + 1, j, hx => by
    simp only [List.replicate_succ, List.flatten_cons] at hx
    rw [leavesOk_append] at hx
    obtain ⟨a, p1, p2⟩ := ck_step IH hl hz hD xs (j * l.length) hx.1 em w
    have hrest := ck_items IH hl hz hD xs em w n (j + 1) (by rw [Nat.add_mul, Nat.one_mul, ← List.drop_drop]; exact hx.2)
    simp only [List.range'_succ, ckItems, Sem.run_bind, p1, p2, Result.andThen_ok, hrest]

theorem ckOk : ∀ d, CkOk P d
  | 0 => fun t ks h => by simp [leavesT] at h
  | d + 1 => by
    intro t ks h D hD em w
    obtain ⟨D, rfl⟩ : ∃ m, D = m + 1 := ⟨D - 1, by omega⟩
    have IH := ckOk d
    unfold leavesT at h
    cases e : P.underlying t with
    | none => simp [e] at h
    | some ty =>
      simp only [e] at h
      cases ty with
      | int k => exact ⟨fun ha => by simp [aggT, e] at ha, fun _ a => by simp [Instr.checkKey, run_underlying e]⟩
      | string => exact ⟨fun ha => by simp [aggT, e] at ha, fun _ a => by simp [Instr.checkKey, run_underlying e]⟩
      | struct fs =>
        refine ⟨fun _ xs hx => ?_, fun ha => by simp [aggT, e] at ha⟩
        simp only at h
        split at h
        · cases h
        · rename_i hc
          simp only [Bool.or_eq_true, Bool.not_eq_true', not_or, Bool.not_eq_true, Bool.not_eq_false] at hc
          rw [run_checkKey_struct em D t xs e]
          exact ck_fields IH (D := D) (by omega) xs em w fs.toList 0 ks h hc.2 (by simpa using hx)
      | array n el =>
        refine ⟨fun _ xs hx => ?_, fun ha => by simp [aggT, e] at ha⟩
        simp only at h
        split at h
        · rename_i l m hl hm
          split at h
          · rename_i hlm
            simp only [Option.some.injEq] at h; subst h
            have hlm' : l.length = m := by simpa using hlm
            subst hlm'
            rw [run_checkKey_array em D t el n l.length xs e hm]
            exact ck_items IH hl hm (D := D) (by omega) xs em w n 0 (by simpa using hx)
          · cases h
        · cases h
      | _ => simp at h

theorem keyT_spec {t : TypeId} {kt : KeyT} (hk : keyT P t = some kt) :
    (kt = .int ∧ ∃ k, P.underlying t = some (.int k)) ∨ (kt = .str ∧ P.underlying t = some .string) ∨ (∃ ks, kt = .agg ks ∧ leavesT P 6 t = some ks ∧ aggT P t = some true) := by
  unfold keyT at hk
  cases e : P.underlying t with
  | none => simp [e] at hk
  | some ty =>
    simp only [e] at hk
    cases ty <;> simp at hk
    · exact .inl ⟨hk.symm, _, rfl⟩
    · exact .inr (.inl ⟨hk.symm, rfl⟩)
    · obtain ⟨ks, h1, rfl⟩ := hk; exact .inr (.inr ⟨ks, rfl, h1, by simp [aggT, e]⟩)
    · obtain ⟨ks, h1, rfl⟩ := hk; exact .inr (.inr ⟨ks, rfl, h1, by simp [aggT, e]⟩)

theorem run_checkKey_int {em : Bool} {d : Nat} {t : TypeId} {kk : IntKind} (e : P.underlying t = some (.int kk)) (k : Value) (w : World) : (Instr.checkKey em (d + 1) t k).run P w = .ok () w := by
  simp [Instr.checkKey, run_underlying e]
theorem run_checkKey_str {em : Bool} {d : Nat} {t : TypeId} (e : P.underlying t = some .string) (k : Value) (w : World) : (Instr.checkKey em (d + 1) t k).run P w = .ok () w := by
  simp [Instr.checkKey, run_underlying e]

theorem run_checkKey_of {t : TypeId} {kt : KeyT} (hk : keyT P t = some kt) {k : Value} {u : Unit} (hf : keyFit kt k = some u) (em : Bool) (w : World) : (Instr.checkKey em 10000 t k).run P w = .ok () w := by
  rcases keyT_spec hk with ⟨rfl, kk, e⟩ | ⟨rfl, e⟩ | ⟨ks, rfl, hl, ha⟩
  · exact run_checkKey_int (d := 9999) e k w
  · exact run_checkKey_str (d := 9999) e k w
  · cases k <;> simp [keyFit] at hf
    exact (ckOk 6 t ks hl 10000 (by omega) em w).1 ha _ (by simpa using hf)

theorem findNow_int {k : Value} {kk : IntKind} : ∀ (es : List MapEntry) (i : Nat) (r : Option (Nat × Value)), findV .int k es i = some r → Instr.findNow (.int kk) k es i = some r
  | [], i, r, h => by simpa [findV, Instr.findNow] using h
  | e :: es, i, r, h => by
    unfold findV at h
    unfold Instr.findNow
    cases k <;> cases hek : e.key <;> simp only [keyV, hek] at h <;> try (cases h)
    rename_i k1 a k2 b
    simp only [Instr.sameNow]
    by_cases hkk : k1 = k2
    · rw [if_pos hkk] at h ⊢
      cases hab : a == b
      · rw [hab] at h; simp only at h ⊢; exact findNow_int es (i + 1) r h
      · rw [hab] at h; simpa using h
    · rw [if_neg hkk] at h; cases h

theorem findNow_str {k : Value} : ∀ (es : List MapEntry) (i : Nat) (r : Option (Nat × Value)), findV .str k es i = some r → Instr.findNow .string k es i = some r
  | [], i, r, h => by simpa [findV, Instr.findNow] using h
  | e :: es, i, r, h => by
    unfold findV at h
    unfold Instr.findNow
    cases k <;> cases hek : e.key <;> simp only [keyV, hek] at h <;> try (cases h)
    rename_i a b
    simp only [Instr.sameNow]
    rw [beq_toListBytes]
    cases hab : a.toList == b.toList
    · rw [hab] at h; simp only at h ⊢; exact findNow_str es (i + 1) r h
    · rw [hab] at h; simpa using h

theorem findAsking_agg {t : TypeId} {ks : List (Option IntKind)} (hl : leavesT P 6 t = some ks) (ha : aggT P t = some true) {k : Value} (w : World) : ∀ (es : List MapEntry) (i : Nat) (r : Option (Nat × Value)),
    findV (.agg ks) k es i = some r → (Instr.findAsking t k es i).run P w = .ok r w
  | [], i, r, h => by simp [findV] at h; subst h; simp [Instr.findAsking]
  | e :: es, i, r, h => by
    unfold findV at h
    unfold Instr.findAsking
    cases k <;> cases hek : e.key <;> simp only [keyV, hek] at h <;> try (cases h)
    rename_i xs ys
    by_cases hc : (leavesOk ks xs.toList && leavesOk ks ys.toList) = true
    · rw [if_pos hc] at h
      simp only [Bool.and_eq_true] at hc
      have := (eqOk 6 t ks hl 10000 (by omega) w).1 ha xs ys hc.1 hc.2
      simp only [Sem.run_bind, Op.equal, Op.maxDepth, this, Result.andThen_ok]
      cases hab : leavesEq xs.toList ys.toList
      · rw [hab] at h; simp only [Bool.false_eq_true, if_false] at h ⊢; exact findAsking_agg hl ha w es (i + 1) r h
      · rw [hab] at h; simpa using h
    · rw [if_neg hc] at h; cases h

theorem findNow_wide {k : Value} {ty : TypeDesc} (hty : (match ty with | .struct _ | .array _ _ => true | _ => false) = true) : ∀ (es : List MapEntry) (i : Nat), es ≠ [] → Instr.findNow ty k es i = none
  | [], i, h => absurd rfl h
  | e :: es, i, _ => by
    unfold Instr.findNow
    cases ty <;> simp_all [Instr.sameNow]

theorem run_findKey_of {t : TypeId} {kt : KeyT} (hk : keyT P t = some kt) {k : Value} {es : List MapEntry} {r : Option (Nat × Value)} (hf : findV kt k es 0 = some r) (w : World) : (Instr.findKey t k es).run P w = .ok r w := by
  unfold Instr.findKey
  rcases keyT_spec hk with ⟨rfl, kk, e⟩ | ⟨rfl, e⟩ | ⟨ks, rfl, hl, ha⟩
  · simp only [Sem.run_bind, run_underlying e, Result.andThen_ok, findNow_int es 0 r hf, Sem.run_pure]
  · simp only [Sem.run_bind, run_underlying e, Result.andThen_ok, findNow_str es 0 r hf, Sem.run_pure]
  · cases e : P.underlying t with
    | none => simp [aggT, e] at ha
    | some ty =>
      simp only [Sem.run_bind, run_underlying e, Result.andThen_ok]
      cases es with
      | nil => simp [findV] at hf; subst hf; simp [Instr.findNow]
      | cons x es =>
        rw [findNow_wide (by cases ty <;> simp_all [aggT]) _ 0 (by simp)]
        exact findAsking_agg hl ha w _ 0 r hf

theorem run_getMap {r : Nat} {es : Array MapEntry} {c : Nat} (hs : Sat h w) (hm : mapAt h r = some (es, c)) : (getObj r).run P w = .ok (.map es c) w := by
  unfold mapAt at hm
  split at hm
  · rename_i es' c' hb
    simp only [Option.some.injEq, Prod.mk.injEq] at hm
    obtain ⟨rfl, rfl⟩ := hm
    have := (hs _ _ hb).1
    simp [getObj, Sem.run, this]
  · rename_i es' c' hb
    simp only [Option.some.injEq, Prod.mk.injEq] at hm
    obtain ⟨rfl, rfl⟩ := hm
    have := hs _ _ hb
    simp only [BlkSat] at this
    simp [getObj, Sem.run, this]
  · cases hm

end
end Go.Bb
