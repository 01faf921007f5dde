/- What writes: store, append, copy, maps. -/
import Derived.Test.YtgoifophjcbpaaaBbJ
namespace Go.Bb
set_option linter.unusedSimpArgs false
set_option linter.unusedVariables false

section
variable {E : Env} {P : Program} {ψ : FuncId → Option Nat} {fid : Nat → Option FuncId} {ρ : Opd → Option Value} {ev : Operand → Value} {h : Heap} {w : World} {K : Value → Heap → Prop}

/-- A value that comes out, with what is ours then. -/
def Out (P : Program) (s : Sem Value) (h : Heap) (w : World) (K : Value → Heap → Prop) : Prop :=
  ∃ v h' w', s.run P w = .ok v w' ∧ Sat h' w' ∧ Fr h h' w w' ∧ K v h'

theorem run_readX {size : Nat} {xv : Value} {m : Nat} {news : List Value} (hs : Sat h w) (hx : readX h size xv = some (m, news)) :
    (Builtin.lenOf xv).run P w = .ok m w ∧ (Builtin.firstCells size m xv).run P w = .ok news.toArray w ∧ news.length = m * size := by
  cases xv <;> simp only [readX] at hx <;> try (cases hx; done)
  case string s =>
    split at hx
    case isFalse => cases hx
    rename_i h1
    simp only [Option.some.injEq, Prod.mk.injEq] at hx
    obtain ⟨rfl, rfl⟩ := hx
    refine ⟨rfl, ?_, by simp [h1]⟩
    simp only [Builtin.firstCells, Sem.run_pure]
    congr 1
    apply Array.ext'
    have : (s.extract 0 s.size) = s := by simp
    rw [this]; simp
  case slice base n c =>
    cases base with
    | none =>
      simp only at hx
      split at hx
      · rename_i hn
        simp only [Option.some.injEq, Prod.mk.injEq] at hx
        obtain ⟨rfl, rfl⟩ := hx
        subst hn
        exact ⟨rfl, rfl, by simp⟩
      · cases hx
    | some a =>
      simp only [Option.map_eq_some_iff, Prod.mk.injEq] at hx
      obtain ⟨l, hl, rfl, rfl⟩ := hx
      exact ⟨rfl, run_loadCells hs hl, hcells_length hl⟩

theorem nextcap_le (need cap : Nat) (hlt : cap < need) : Builtin.nextslicecap need cap ≤ 2 * need := by
  unfold Builtin.nextslicecap
  split
  · omega
  · split
    · omega
    · have g : ∀ (r c : Nat), 256 ≤ c → c ≤ 2 * need → Builtin.growBy need r c ≤ 2 * need := by
        intro r
        induction r with
        | zero => intro c _ h; simpa [Builtin.growBy] using h
        | succ r ih =>
          intro c h1 h2
          simp only [Builtin.growBy]
          split
          · exact h2
          · exact ih _ (by omega) (by omega)
      exact g 4 cap (by omega) (by omega)

theorem zeroCells_eq (z : List Value) (hz : 0 < z.length) (n : Nat) : Builtin.zeroCells z.toArray n = (List.flatten (List.replicate n z)).toArray := by
  unfold Builtin.zeroCells
  apply Array.ext'
  have := range_rep z hz n
  simpa using this

/-- The part of append that is alike for both forms. -/
def appendRest (e : TypeId) (size sLen sCap n : Nat) (base : Option Addr) (s : Value) (appended : Sem (Array Value)) (guard : Sem Unit) : Sem Value := do
  let need := sLen + n
  if need ≤ sCap then
    let new ← appended
    if let some a := base then storeCells (a.add (sLen * size)) new.toList
    pure (.slice base need sCap)
  else
    guard
    let newCap ← choose (.appendCap need sCap e)
    askRoom (newCap * (← typeInfo e).bytes)
    let old ← Builtin.firstCells size sLen s
    let new ← appended
    let rest := Builtin.zeroCells (← zeroValue e).cells (newCap - need)
    pure (.slice (some (← newRow e (old ++ new ++ rest))) need newCap)

theorem appendRest_out {e : TypeId} {i : TypeInfo} {z : List Value} {size bytes n c m : Nat} {base : Option Addr} {news : List Value} {appended : Sem (Array Value)} {guard : Sem Unit}
    (hi : P.info? e = some i) (hz : zeroT P e = some z) (hsz : size = z.length) (hpos : 0 < size) (hs : Sat h w) (hlen : news.length = m * size)
    (happ : ∀ w', w'.heap = w.heap → appended.run P w' = .ok news.toArray w') (hg : ¬ (n + m ≤ c) → (n + m) * bytes ≤ 140737488355328 → n + m ≤ 9223372036854775807 → guard.run P w = .ok () w)
    (hK : appendW size bytes h base n c m news K) :
    Out P (appendRest e size n c m base (.slice base n c) appended guard) h w K := by
  unfold appendW at hK
  unfold appendRest Out
  by_cases hfit : n + m ≤ c
  · rw [if_pos hfit] at hK
    simp only [Sem.run_ite, hfit, if_true, Sem.run_bind, happ w rfl, Result.andThen_ok]
    cases base with
    | none => exact ⟨_, h, w, rfl, hs, Fr.refl _ _, hK⟩
    | some a =>
      simp only at hK
      split at hK
      · rename_i h' hst
        obtain ⟨h1, hK⟩ := hK
        obtain ⟨w', hr, hs', hf⟩ := run_hstore (P := P) hs h1 hst
        refine ⟨_, h', w', ?_, hs', hf, hK⟩
        simp [hr]
      · exact hK.elim
  · rw [if_neg hfit] at hK
    obtain ⟨hb, hmx, hK⟩ := hK
    simp only [Sem.run_ite, hfit, if_false, Sem.run_bind, hg hfit hb hmx, Result.andThen_ok, run_choose, Question.forced, Bool.false_eq_true, run_typeInfo' hi, run_askRoom]
    generalize hcap : (Question.appendCap (n + m) c e).cut (w.tape w.drawn (.appendCap (n + m) c e)) = cap
    have hge : n + m ≤ cap := by rw [← hcap]; simp [Question.cut]
    obtain ⟨zz, hzz, hzc⟩ := zero_of hz
    let w1 : World := { w with drawn := w.drawn + 1 }
    have hs1 : Sat h w1 := Sat.of_heap (w := w) rfl hs
    have hold : ∃ old, (Builtin.firstCells size n (.slice base n c)).run P w1 = .ok old.toArray w1 ∧ (old.length = n * size) ∧ oldOf h n (n * size) base = some old := by
      cases base with
      | none =>
        split at hK
        · rename_i old ho
          unfold oldOf at ho
          simp only at ho
          split at ho
          · rename_i hn
            simp only [Option.some.injEq] at ho; subst ho; subst hn
            exact ⟨[], rfl, by simp, by simp [oldOf]⟩
          · cases ho
        · exact hK.elim
      | some a =>
        split at hK
        · rename_i old ho
          exact ⟨old, run_loadCells hs1 ho, hcells_length ho, ho⟩
        · exact hK.elim
    obtain ⟨old, hro, hlo, heo⟩ := hold
    rw [heo] at hK
    simp only at hK
    have hK' := hK w.heap.size cap (hs.none_of_ge (Nat.le_refl _)) hge
    refine ⟨_, _, { w1 with heap := w.heap.push (.cells (old.toArray ++ news.toArray ++ Builtin.zeroCells z.toArray (cap - (n + m))) e) }, ?_, ?_, ?_, hK'⟩
    · change ((Builtin.firstCells size n (.slice base n c)).run P w1).andThen _ = _
      rw [hro]
      simp only [Result.andThen_ok]
      rw [happ w1 rfl]
      simp only [Result.andThen_ok, hzz, hzc, newRow, Sem.run_bind, run_newObj, Sem.run_pure]
      rfl
    · refine Sat.of_heap (w := { w with heap := w.heap.push (.cells (old.toArray ++ news.toArray ++ Builtin.zeroCells z.toArray (cap - (n + m))) e) }) rfl ?_
      refine sat_push hs ?_
      refine ⟨_, e, (0, 0), rfl, ?_, ?_, ?_, .inl rfl⟩
      · rw [zeroCells_eq z (by omega)]
        simp [hlo, hlen, ← hsz]
        rw [← Nat.add_mul, ← Nat.add_mul]; congr 1; omega
      · simp [hlo, hlen]
        rw [← Nat.add_mul]; exact Nat.mul_le_mul_right _ hge
      · intro i v hv
        rw [Nat.zero_add]
        have : (old ++ news)[i]? = some v := hv
        simp only [Array.getElem?_append, List.size_toArray, Array.size_append]
        have hlt : i < (old ++ news).length := by
          rcases Nat.lt_or_ge i (old ++ news).length with g | g
          · exact g
          · rw [List.getElem?_eq_none g] at this; cases this
        simp only [List.length_append] at hlt
        rw [if_pos hlt]
        simpa [List.getElem?_append] using this
    · exact Fr.trans (fr_push hs _ (.cells (old.toArray ++ news.toArray ++ Builtin.zeroCells z.toArray (cap - (n + m))) e)) (Fr.of_heap rfl rfl rfl rfl)

end
end Go.Bb
