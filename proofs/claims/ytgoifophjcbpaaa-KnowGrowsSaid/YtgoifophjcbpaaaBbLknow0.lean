/- The statements on what can be known: what they share. -/
import Derived.Test.YtgoifophjcbpaaaBbCknow5
import Derived.Test.YtgoifophjcbpaaaBbY6
import Derived.Test.YtgoifophjcbpaaaBbOp
namespace Go.Bb
set_option linter.unusedSimpArgs false
set_option linter.unusedVariables false
set_option maxRecDepth 100000

theorem aw18 : isTrue (evF tab noHooks 1000 50 n_bandboxlaw18_awake [] VM.start) = true := by decide +kernel
theorem law18_awake_c (E : EnvT tab) (h : Heap) : ACallN E.toEnv n_bandboxlaw18_awake [] h fun v h' => v = .bool true ∧ h.le h' := evF_true noHooks_ok h aw18

theorem ok_ints {W : World} {k : IntKind} {v : Value} (h : Shp.ok W (.slice 1 (.int k)) v) : ∃ M : List Int, Sl (roHeap W) 1 v M.length (M.map (.int k)) ∧ M.length ≤ 9223372036854775807 ∧ ∀ x ∈ M, k.min ≤ x ∧ x ≤ k.max := by
  obtain ⟨M, h1, h2, h3⟩ := Shp.ok_rows (fun z => [Value.int k z]) (fun z => k.min ≤ z ∧ z ≤ k.max) (by simp) (fun l hl => by obtain ⟨n, rfl, hn⟩ := hl; exact ⟨n, rfl, hn⟩) h
  rw [flat_one] at h1
  exact ⟨M, h1, h2, h3⟩
theorem ok_things {W : World} {v : Value} (h : Shp.ok W (.slice 4 (.struct 4 (.fld 0 1 (.int .i64) (.fld 1 1 (.int .i64) (.fld 2 1 (.int .i64) (.fld 3 1 (.int .i64) .fend)))))) v) :
    ∃ L : List Th, Sl (roHeap W) 4 v L.length (L.flatMap Th.cells) ∧ L.length ≤ 9223372036854775807 := by
  obtain ⟨L, h1, h2, _⟩ := Shp.ok_rows Th.cells (fun _ => True) cells_len (fun l hl => by
    obtain ⟨hl, ⟨a, ha, _⟩, ⟨b, hb, _⟩, ⟨c, hc, _⟩, ⟨d, hd, _⟩, _⟩ := hl
    refine ⟨⟨a, b, c, d⟩, ?_, trivial⟩
    match l, hl with
    | [x, y, z, w], _ =>
      simp at ha hb hc hd
      subst ha; subst hb; subst hc; subst hd
      rfl) h
  exact ⟨L, h1, h2⟩

theorem allK_bad {L : List Th} {M : List Int} (h : goodT L = false) : allK L M = [] := by unfold allK; rw [h]; rfl
theorem mem_allK {L : List Th} {M : List Int} (hg : goodT L = true) (z : Int) : z ∈ allK L M ↔ ∃ i : Nat, z = i ∧ i < L.length ∧ Kn L (fun z => z ∈ M) i := by
  unfold allK
  rw [if_pos hg]
  simp only [List.mem_map, List.mem_filter, List.mem_range, knB_true]
  constructor
  · rintro ⟨i, ⟨h1, h2⟩, rfl⟩; exact ⟨i, rfl, h1, h2⟩
  · rintro ⟨i, rfl, h1, h2⟩; exact ⟨i, ⟨h1, h2⟩, rfl⟩
theorem allK_congr {L : List Th} {M M' : List Int} (h : ∀ i, i < L.length → (Kn L (fun z => z ∈ M) i ↔ Kn L (fun z => z ∈ M') i)) : allK L M = allK L M' := by
  unfold allK
  split
  · congr 1
    apply List.filter_congr
    intro i hi
    rw [Bool.eq_iff_iff, knB_true, knB_true]
    exact h i (List.mem_range.1 hi)
  · rfl
theorem allK_len {L : List Th} {M : List Int} : (allK L M).length ≤ L.length := by
  unfold allK
  split
  · rw [List.length_map]
    have := List.length_filter_le (knB L M) (List.range L.length)
    rw [List.length_range] at this
    exact this
  · simp
theorem allK_mono {L : List Th} {A B : List Int} : ∀ z ∈ allK L A, z ∈ allK L (A ++ B) := by
  intro z hz
  cases hg : goodT L with
  | false => rw [allK_bad hg] at hz; cases hz
  | true =>
    rw [mem_allK hg] at hz ⊢
    obtain ⟨i, h1, h2, h3⟩ := hz
    exact ⟨i, h1, h2, h3.mono fun x hx => List.mem_append_left _ hx⟩
theorem allK_again {L : List Th} {A : List Int} (hg : goodT L = true) : allK L (allK L A) = allK L A := by
  apply allK_congr
  intro i hi
  constructor
  · refine Kn.bind ?_
    intro j hj
    rw [mem_allK hg] at hj
    obtain ⟨k, h1, _, h3⟩ := hj
    have : j = k := by omega
    subst this; exact h3
  · intro h
    exact .base hi ((mem_allK hg _).2 ⟨i, rfl, hi, h⟩)
theorem allK_nil {L : List Th} : allK L [] = [] := by
  cases hg : goodT L with
  | false => exact allK_bad hg
  | true =>
    apply List.eq_nil_iff_forall_not_mem.2
    intro z hz
    rw [mem_allK hg] at hz
    obtain ⟨i, _, _, h⟩ := hz
    exact Kn.none (h.mono fun x hx => by cases hx)
end Go.Bb
