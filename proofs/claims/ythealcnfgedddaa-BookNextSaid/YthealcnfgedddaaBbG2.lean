/- The engine: BbJ BbK BbL BbM BbN BbO BbQ BbR BbS BbT. -/
import Derived.Test.YthealcnfgedddaaBbG1
import Derived.Maps.RangeRun
import Derived.Scope
import Derived.Orders
namespace Go.Bb
set_option linter.unusedSimpArgs false
set_option linter.unusedVariables false
structure AOper where
  dst : Option Nat
  op : AOp
  guard : Option (Nat × Bool) := none
structure DOper where
  ix : Nat
  dst : Option Nat
  op : AOp
  guard : Option (Nat × Bool) := none
  back : Nat := 0
inductive ACode where
  | skip
  | ops (os : List AOper) (keep : List Nat)
  | dops (os : List DOper) (keep : List Nat)
  | seq (a b : ACode)
  | cond (c : Opd) (a b : ACode)
  | block (id : Nat) (c : ACode)
  | loop (c : ACode)
  | scope (c : ACode)
  | exit (id : Nat)
  | ret
  | bad
inductive ARes where
  | tmp (t : Nat)
  | cell (t : Nat) (k : Option Nat)
structure q0d where
  np : Nat
  nt : Nat
  results : List ARes
  body : ACode
structure Env where
  P : Program
  fid : Nat → Option FuncId
  ψ : FuncId → Option Nat
  fid_ok : ∀ f n, ψ f = some n → fid n = some f
  body_ok : ∀ n f, fid n = some f → ∃ fn, P.funcs[f]? = some fn ∧ fn.body.isSome = true ∧ (fn.name == "runtime.NumGoroutine") = false
def ACalls (E : Env) (f : FuncId) (args : List Value) (h : Heap) (Q : Value → Heap → Prop) : Prop :=
  ∀ w, Sat h w → Calls E.P f args.toArray w fun e w' => ∃ v h', e = .returned v ∧ Sat h' w' ∧ Fr h h' w w' ∧ Q v h'
def ACallN (E : Env) (n : Nat) (args : List Value) (h : Heap) (Q : Value → Heap → Prop) : Prop :=
  ∀ f, E.fid n = some f → ACalls E f args h Q
theorem ACalls.mono {E : Env} {f : FuncId} {args : List Value} {h : Heap} {Q Q' : Value → Heap → Prop} (a : ACalls E f args h Q) (hq : ∀ v h', Q v h' → Q' v h') : ACalls E f args h Q' :=
  fun w s => (a w s).mono fun _ _ ⟨v, h', e1, e2, e3, e4⟩ => ⟨v, h', e1, e2, e3, hq _ _ e4⟩
theorem ACallN.mono {E : Env} {n : Nat} {args : List Value} {h : Heap} {Q Q' : Value → Heap → Prop} (a : ACallN E n args h Q) (hq : ∀ v h', Q v h' → Q' v h') : ACallN E n args h Q' :=
  fun f hf => (a f hf).mono hq
def qhp (h : Heap) (size : Nat) : Value → Option (Nat × List Value)
  | .slice none n _ => if n = 0 then some (0, []) else none
  | .slice (some a) n _ => (q09 h a (n * size)).map fun l => (n, l)
  | .string s => if size = 1 then some (s.size, s.data.toList.map fun b => .int .u8 b.toNat) else none
  | _ => none
def qik (h : Heap) (n k : Nat) : Option Addr → Option (List Value)
  | none => if n = 0 then some [] else none
  | some a => q09 h a k
def q6z (size bytes : Nat) (h : Heap) (base : Option Addr) (n c m : Nat) (news : List Value) (K : Value → Heap → Prop) : Prop :=
  if n + m ≤ c then
    match base with
    | none => K (.slice none (n + m) c) h
    | some a =>
      match q7p h (a.add (n * size)) news with
      | some h' => (∀ u ∈ news, one u = true) ∧ K (.slice (some a) (n + m) c) h'
      | none => False
  else
    (n + m) * bytes ≤ 140737488355328 ∧ n + m ≤ 9223372036854775807 ∧
    match qik h n (n * size) base with
    | some old => ∀ b c', h b = none → n + m ≤ c' → K (.slice (some ⟨b, 0, none⟩) (n + m) c') (h.set b (.own 0 (old ++ news) (c' * size)))
    | none => False
def q13 (E : Env) (ρ : Opd → Option Value) (h : Heap) (K : Value → Heap → Prop) : AOp → Prop
  | .store size a x =>
    match ρ a, ρ x with
    | some (.pointer (some p)), some v => v.cells.size = size ∧ (∀ u ∈ v.cells.toList, one u = true) ∧ (match q7p h p v.cells.toList with | some h' => K undef h' | none => False)
    | _, _ => False
  | .call n args => match allV ρ args with | some vs => ACallN E n vs h K | none => False
  | .callv f args =>
    match ρ f, allV ρ args with
    | some (.func (.func g) first cap), some vs => (∃ m, E.fid m = some g) ∧ ACalls E g (first.toList ++ vs ++ cap.toList) h K
    | _, _ => False
  | .append size bytes s x =>
    match ρ s, ρ x with
    | some (.slice base n c), some xv => (match qhp h size xv with | some (m, news) => q6z size bytes h base n c m news K | none => False)
    | _, _ => False
  | .appendZ size bytes z s x =>
    match ρ s, ρ x with
    | some (.slice base n c), some (.int _ m) => 0 ≤ m ∧ m ≤ 9223372036854775807 ∧ m * bytes ≤ 281474976710656 ∧ q6z size bytes h base n c m.toNat (List.flatten (List.replicate m.toNat z)) K
    | _, _ => False
  | .copy size d s =>
    match ρ d, ρ s with
    | some (.slice base n _), some (.slice (some b) m _) =>
      (match q09 h b (min m n * size) with
      | some l =>
        (∀ u ∈ l, one u = true) ∧
        (match base with
        | none => K (.int .i64 (min m n : Nat)) h
        | some a => (match q7p h a l with | some h' => K (.int .i64 (min m n : Nat)) h' | none => False))
      | none => False)
    | some (.slice base n _), some (.slice none m _) => m = 0 ∧ K (.int .i64 0) h
    | some (.slice base n _), some (.string s) =>
      (match base with
      | none => K (.int .i64 (min s.size n : Nat)) h
      | some a => size = 1 ∧ (match q7p h a ((s.data.toList.take (min s.size n)).map fun b => .int .u8 b.toNat) with | some h' => K (.int .i64 (min s.size n : Nat)) h' | none => False))
    | _, _ => False
  | .mupd kt m k v =>
    match ρ m, ρ k, ρ v with
    | some (.map (some r)), some kv, some vv =>
      (match h r with
      | some (.obj (.map es c)) =>
        (match q96 kt kv, q6d kt kv es.toList 0 with
        | some _, some (some (i, _)) => K undef (h.set r (.obj (.map (es.modify i fun e => { e with key := kv, val := vv }) c)))
        | some _, some none => K undef (h.set r (.obj (.map (es.push { key := kv, val := vv, born := c }) (c + 1))))
        | _, _ => False)
      | _ => False)
    | _, _, _ => False
  | .mdel kt m k =>
    match ρ m, ρ k with
    | some (.map (some r)), some kv =>
      (match h r with
      | some (.obj (.map es c)) =>
        (match q96 kt kv, q6d kt kv es.toList 0 with
        | some _, some (some (i, _)) => K (.tuple #[]) (h.set r (.obj (.map (es.eraseIdxIfInBounds i) c)))
        | some _, some none => K (.tuple #[]) (h.set r (.obj (.map es c)))
        | _, _ => False)
      | _ => False)
    | _, _ => False
  | .bytesOf x =>
    match ρ x with
    | some (.string s) => ∀ b c', h b = none → s.size ≤ c' → K (.slice (some ⟨b, 0, none⟩) s.size c') (h.set b (.own 0 (s.data.toList.map fun b => .int .u8 b.toNat) c'))
    | _ => False
  | .mark x =>
    match ρ x with
    | some (.slice (some a) n c) => (match h a.block with | some (.own _ _ _) => K (.slice (some a) n c) h | _ => False)
    | _ => False
  | .rangeM x =>
    match ρ x with
    | some (.map none) => ∀ b, h b = none → K (.pointer (some ⟨b, 0, none⟩)) (h.set b (.obj (.mapIter none 0 #[] 0)))
    | some (.map (some m)) => (match q8n h m with | some (es, c) => ∀ b, h b = none → K (.pointer (some ⟨b, 0, none⟩)) (h.set b (.obj (.mapIter (some m) c #[] c))) | none => False)
    | _ => False
  | .nextM x =>
    match ρ x with
    | some (.pointer (some ⟨r, 0, none⟩)) =>
      (match h r with
      | some (.obj (.mapIter none _ _ _)) => K (.tuple #[.bool false]) h
      | some (.obj (.mapIter (some m) since seen c0)) =>
        (match q8n h m with
        | some (es, clock) => (∀ e ∈ es.toList, e.born < since) ∧ since ≤ c0 ∧ ((leftOf es seen).size = 0 → K (.tuple #[.bool false]) h) ∧ ∀ e ∈ (leftOf es seen).toList, K (.tuple #[.bool true, e.key, e.val]) (h.set r (.obj (.mapIter (some m) since (seen.push e.born) clock)))
        | none => False)
      | _ => False)
    | _ => False
  | .entryM x =>
    match ρ x with
    | some (.pointer (some ⟨r, 0, none⟩)) =>
      (match h r with
      | some (.obj (.mapIter (some m) _ seen c0)) =>
        (match q8n h m with
        | some (es, clock) => (match seen.back? with | some stamp => (match es.find? (fun e => e.born == stamp) with | some e => clock = c0 ∧ K (.tuple #[e.key, e.val]) h | none => False) | none => False)
        | none => False)
      | _ => False)
    | _ => False
  | _ => False
def step (E : Env) (ρ : Opd → Option Value) (h : Heap) (ao : AOp) (K : Value → Heap → Prop) : Prop :=
  match ao with
  | .alloc .. | .box .. | .bslice .. | .mslice .. | .mmap =>
    (match z6m ρ ao with
    | some (blk, mk) => ∀ b, h b = none → K (mk b) (h.set b blk)
    | none => False)
  | .store .. | .call .. | .callv .. | .append .. | .appendZ .. | .copy .. | .mupd .. | .mdel .. | .bytesOf .. | .mark .. | .rangeM .. | .nextM .. | .entryM .. => q13 E ρ h K ao
  | .bad => False
  | _ => match q00 E.fid ρ h ao with | some v => K v h | none => False
section
variable {E : Env} {P : Program} {ψ : FuncId → Option Nat} {fid : Nat → Option FuncId} {ρ : Opd → Option Value} {ev : Operand → Value} {h : Heap} {w : World} {K : Value → Heap → Prop}
def Out (P : Program) (s : Sem Value) (h : Heap) (w : World) (K : Value → Heap → Prop) : Prop :=
  ∃ v h' w', s.run P w = .ok v w' ∧ Sat h' w' ∧ Fr h h' w w' ∧ K v h'
theorem qhm {size : Nat} {xv : Value} {m : Nat} {news : List Value} (hs : Sat h w) (hx : qhp h size xv = some (m, news)) :
    (Builtin.lenOf xv).run P w = .ok m w ∧ (Builtin.firstCells size m xv).run P w = .ok news.toArray w ∧ news.length = m * size := by
  cases xv <;> simp only [qhp] at hx <;> try (cases hx; done)
  case string s =>
    split at hx
    case isFalse => cases hx
    rename_i h1
    simp only [Option.some.injEq, Prod.mk.injEq] at hx
    obtain ⟨rfl, rfl⟩ := hx
    refine ⟨rfl, ?_, by simp [h1]⟩
    simp only [Builtin.firstCells, Sem.run_pure]
    congr 1
    apply Array.ext'
    have : (s.extract 0 s.size) = s := by simp
    rw [this]; simp
  case slice base n c =>
    cases base with
    | none =>
      simp only at hx
      split at hx
      · rename_i hn
        simp only [Option.some.injEq, Prod.mk.injEq] at hx
        obtain ⟨rfl, rfl⟩ := hx
        subst hn
        exact ⟨rfl, rfl, by simp⟩
      · cases hx
    | some a =>
      simp only [Option.map_eq_some_iff, Prod.mk.injEq] at hx
      obtain ⟨l, hl, rfl, rfl⟩ := hx
      exact ⟨rfl, q7e hs hl, q5i hl⟩
theorem qga (need cap : Nat) (hlt : cap < need) : Builtin.nextslicecap need cap ≤ 2 * need := by
  unfold Builtin.nextslicecap
  split
  · omega
  · split
    · omega
    · have g : ∀ (r c : Nat), 256 ≤ c → c ≤ 2 * need → Builtin.growBy need r c ≤ 2 * need := by
        intro r
        induction r with
        | zero => intro c _ h; simpa [Builtin.growBy] using h
        | succ r ih =>
          intro c h1 h2
          simp only [Builtin.growBy]
          split
          · exact h2
          · exact ih _ (by omega) (by omega)
      exact g 4 cap (by omega) (by omega)
theorem qdo (z : List Value) (hz : 0 < z.length) (n : Nat) : Builtin.zeroCells z.toArray n = (List.flatten (List.replicate n z)).toArray := by
  unfold Builtin.zeroCells
  apply Array.ext'
  have := qey z hz n
  simpa using this
def qb5 (e : TypeId) (size sLen sCap n : Nat) (base : Option Addr) (s : Value) (appended : Sem (Array Value)) (guard : Sem Unit) : Sem Value := do
  let need := sLen + n
  if need ≤ sCap then
    let new ← appended
    if let some a := base then storeCells (a.add (sLen * size)) new.toList
    pure (.slice base need sCap)
  else
    guard
    let newCap ← choose (.appendCap need sCap e)
    askRoom (newCap * (← typeInfo e).bytes)
    let old ← Builtin.firstCells size sLen s
    let new ← appended
    let rest := Builtin.zeroCells (← zeroValue e).cells (newCap - need)
    pure (.slice (some (← newRow e (old ++ new ++ rest))) need newCap)
theorem qbl {e : TypeId} {i : TypeInfo} {z : List Value} {size bytes n c m : Nat} {base : Option Addr} {news : List Value} {appended : Sem (Array Value)} {guard : Sem Unit}
    (hi : P.info? e = some i) (hz : qc1 P e = some z) (hsz : size = z.length) (hpos : 0 < size) (hs : Sat h w) (hlen : news.length = m * size)
    (happ : ∀ w', w'.heap = w.heap → appended.run P w' = .ok news.toArray w') (hg : ¬ (n + m ≤ c) → (n + m) * bytes ≤ 140737488355328 → n + m ≤ 9223372036854775807 → guard.run P w = .ok () w)
    (hK : q6z size bytes h base n c m news K) :
    Out P (qb5 e size n c m base (.slice base n c) appended guard) h w K := by
  unfold q6z at hK
  unfold qb5 Out
  by_cases hfit : n + m ≤ c
  · rw [if_pos hfit] at hK
    simp only [Sem.run_ite, hfit, if_true, Sem.run_bind, happ w rfl, Result.andThen_ok]
    cases base with
    | none => exact ⟨_, h, w, rfl, hs, Fr.qfx _ _, hK⟩
    | some a =>
      simp only at hK
      split at hK
      · rename_i h' hst
        obtain ⟨h1, hK⟩ := hK
        obtain ⟨w', hr, hs', hf⟩ := qcx (P := P) hs h1 hst
        refine ⟨_, h', w', ?_, hs', hf, hK⟩
        simp [hr]
      · exact hK.elim
  · rw [if_neg hfit] at hK
    obtain ⟨hb, hmx, hK⟩ := hK
    simp only [Sem.run_ite, hfit, if_false, Sem.run_bind, hg hfit hb hmx, Result.andThen_ok, run_choose, Question.forced, Bool.false_eq_true, q1y hi, run_askRoom]
    generalize hcap : (Question.appendCap (n + m) c e).cut (w.tape w.drawn (.appendCap (n + m) c e)) = cap
    have hge : n + m ≤ cap := by rw [← hcap]; simp [Question.cut]
    obtain ⟨zz, hzz, hzc⟩ := qep hz
    let w1 : World := { w with drawn := w.drawn + 1 }
    have hs1 : Sat h w1 := Sat.q9g (w := w) rfl hs
    have hold : ∃ old, (Builtin.firstCells size n (.slice base n c)).run P w1 = .ok old.toArray w1 ∧ (old.length = n * size) ∧ qik h n (n * size) base = some old := by
      cases base with
      | none =>
        split at hK
        · rename_i old ho
          unfold qik at ho
          simp only at ho
          split at ho
          · rename_i hn
            simp only [Option.some.injEq] at ho; subst ho; subst hn
            exact ⟨[], rfl, by simp, by simp [qik]⟩
          · cases ho
        · exact hK.elim
      | some a =>
        split at hK
        · rename_i old ho
          exact ⟨old, q7e hs1 ho, q5i ho, ho⟩
        · exact hK.elim
    obtain ⟨old, hro, hlo, heo⟩ := hold
    rw [heo] at hK
    simp only at hK
    have hK' := hK w.heap.size cap (hs.none_of_ge (Nat.le_refl _)) hge
    refine ⟨_, _, { w1 with heap := w.heap.push (.cells (old.toArray ++ news.toArray ++ Builtin.zeroCells z.toArray (cap - (n + m))) e) }, ?_, ?_, ?_, hK'⟩
    · change ((Builtin.firstCells size n (.slice base n c)).run P w1).andThen _ = _
      rw [hro]
      simp only [Result.andThen_ok]
      rw [happ w1 rfl]
      simp only [Result.andThen_ok, hzz, hzc, newRow, Sem.run_bind, run_newObj, Sem.run_pure]
      rfl
    · refine Sat.q9g (w := { w with heap := w.heap.push (.cells (old.toArray ++ news.toArray ++ Builtin.zeroCells z.toArray (cap - (n + m))) e) }) rfl ?_
      refine qau hs ?_
      refine ⟨_, e, (0, 0), rfl, ?_, ?_, ?_, .inl rfl⟩
      · rw [qdo z (by omega)]
        simp [hlo, hlen, ← hsz]
        rw [← Nat.add_mul, ← Nat.add_mul]; congr 1; omega
      · simp [hlo, hlen]
        rw [← Nat.add_mul]; exact Nat.mul_le_mul_right _ hge
      · intro i v hv
        rw [Nat.zero_add]
        have : (old ++ news)[i]? = some v := hv
        simp only [Array.getElem?_append, List.size_toArray, Array.size_append]
        have hlt : i < (old ++ news).length := by
          rcases Nat.lt_or_ge i (old ++ news).length with g | g
          · exact g
          · rw [List.getElem?_eq_none g] at this; cases this
        simp only [List.length_append] at hlt
        rw [if_pos hlt]
        simpa [List.getElem?_append] using this
    · exact Fr.trans (qdd hs _ (.cells (old.toArray ++ news.toArray ++ Builtin.zeroCells z.toArray (cap - (n + m))) e)) (Fr.qdm rfl rfl rfl ⟨rfl, Nat.le_succ _⟩)
end
section
variable {E : Env} {ρ : Opd → Option Value} {ev : Operand → Value} {h : Heap} {w : World} {K : Value → Heap → Prop} {P : Program} {ψ : FuncId → Option Nat}
theorem qk4 (hs : Sat h w) (argTypes : Array TypeId) (t u ty e : TypeId) (i : TypeInfo) (z : List Value) (base : Option Addr) (n c m : Nat) (xv : Value) (news : List Value)
    (hT0 : argTypes[0]? = some t) (hT1 : argTypes[1]? = some u) (h1 : P.underlying t = some (.slice e)) (h2 : (∃ e2, P.underlying u = some (.slice e2)) ∨ (P.underlying u = some .string)) (hi : P.info? e = some i) (hz : qc1 P e = some z)
    (hsz : i.size = z.length) (hpos : 0 < i.size) (hx : qhp h i.size xv = some (m, news)) (hK : q6z i.size i.bytes h base n c m news K) :
    Out P (Builtin.append_ argTypes ty #[.slice base n c, xv]) h w K := by
  have hS : q2i P e = some i.size := by simp [q2i, hi]
  obtain ⟨hl, hf, hlen⟩ := qhm (P := P) hs hx
  have hfw : ∀ w', w'.heap = w.heap → (Builtin.firstCells i.size m xv).run P w' = .ok news.toArray w' := fun w' e' => (qhm (P := P) (Sat.q9g e' hs) hx).2.1
  obtain ⟨v, h', w', hr, hrest⟩ := qbl (P := P) (e := e) (appended := Builtin.firstCells i.size m xv) (guard := pure ()) hi hz hsz hpos hs hlen hfw (fun _ _ _ => rfl) hK
  refine ⟨v, h', w', ?_, hrest⟩
  rw [← hr]
  unfold Builtin.append_ qb5
  simp only [hT0, hT1]
  have hx0 : ((#[Value.slice base n c, xv] : Array Value)[0]?) = some (.slice base n c) := rfl
  have hx1 : ((#[Value.slice base n c, xv] : Array Value)[1]?) = some xv := rfl
  simp only [hx0, hx1]
  have fin : ∀ hfit : ¬ (n + m ≤ c), ¬ (((n + m : Nat) : Int) > IntKind.i64.max) ∧ ¬ (Builtin.nextslicecap (n + m) c * i.bytes > 2 ^ 48) := by
    intro hfit
    unfold q6z at hK
    rw [if_neg hfit] at hK
    obtain ⟨hb, hmx, _⟩ := hK
    have hcap := qga (n + m) c (by omega)
    constructor
    · simp [IntKind.max, IntKind.signed, IntKind.bits]; omega
    · have : Builtin.nextslicecap (n + m) c * i.bytes ≤ 2 * (n + m) * i.bytes := Nat.mul_le_mul_right _ hcap
      have h3 : 2 * (n + m) * i.bytes = 2 * ((n + m) * i.bytes) := Nat.mul_assoc _ _ _
      omega
  rcases h2 with ⟨e2, h2⟩ | h2
  all_goals
    simp only [Sem.run_bind, run_underlying h1, run_underlying h2, q0p hS, Result.andThen_ok, Sem.run_pure, Bool.false_eq_true, if_false, hl, Bool.not_false, if_true, Sem.run_ite, or_false, false_or]
    by_cases hfit : n + m ≤ c
    · simp only [hfit, if_true]; rfl
    · obtain ⟨f1, f2⟩ := fin hfit
      simp only [hfit, if_false, q1y hi, Result.andThen_ok, f1, false_and, f2, Sem.run_pure]
theorem qiz (hs : Sat h w) (argTypes : Array TypeId) (t u ty e : TypeId) (ku kx : IntKind) (i : TypeInfo) (z : List Value) (base : Option Addr) (n c : Nat) (m : Int)
    (hT0 : argTypes[0]? = some t) (hT1 : argTypes[1]? = some u) (h1 : P.underlying t = some (.slice e)) (h2 : P.underlying u = some (.int ku)) (hi : P.info? e = some i) (hz : qc1 P e = some z)
    (hsz : i.size = z.length) (hpos : 0 < i.size) (hm0 : 0 ≤ m) (hm1 : m ≤ 9223372036854775807) (hm2 : m * i.bytes ≤ 281474976710656) (hK : q6z i.size i.bytes h base n c m.toNat (List.flatten (List.replicate m.toNat z)) K) :
    Out P (Builtin.append_ argTypes ty #[.slice base n c, .int kx m]) h w K := by
  have hS : q2i P e = some i.size := by simp [q2i, hi]
  obtain ⟨zz, hzz, hzc⟩ := qep hz
  have hlen : (List.flatten (List.replicate m.toNat z)).length = m.toNat * i.size := by simp [hsz]
  have hfw : ∀ w', w'.heap = w.heap → (if m.toNat * i.size = 0 then pure #[] else do pure (Builtin.zeroCells (← zeroValue e).cells m.toNat) : Sem (Array Value)).run P w' = .ok (List.flatten (List.replicate m.toNat z)).toArray w' := by
    intro w' _
    by_cases hm : m.toNat * i.size = 0
    · have hn0 : m.toNat = 0 := by
        rcases Nat.mul_eq_zero.1 hm with h | h
        · exact h
        · omega
      simp [hn0]
    · simp only [Sem.run_ite, hm, if_false, Sem.run_bind, hzz, Result.andThen_ok, hzc, Sem.run_pure, qdo z (by omega)]
  obtain ⟨v, h', w', hr, hrest⟩ := qbl (P := P) (e := e) (appended := (if m.toNat * i.size = 0 then pure #[] else do pure (Builtin.zeroCells (← zeroValue e).cells m.toNat) : Sem (Array Value))) (guard := pure ()) hi hz hsz hpos hs hlen hfw (fun _ _ _ => rfl) hK
  refine ⟨v, h', w', ?_, hrest⟩
  rw [← hr]
  unfold Builtin.append_ qb5
  simp only [hT0, hT1]
  have hx0 : ((#[Value.slice base n c, .int kx m] : Array Value)[0]?) = some (.slice base n c) := rfl
  have hx1 : ((#[Value.slice base n c, .int kx m] : Array Value)[1]?) = some (.int kx m) := rfl
  simp only [hx0, hx1]
  have wm : IntKind.i64.wrap m = m := by simp [IntKind.wrap, IntKind.bits, IntKind.signed]; omega
  have g1 : ¬ (m < 0) := by omega
  have g2 : ¬ (m * i.bytes > 2 ^ 48) := by omega
  have fin : ∀ hfit : ¬ (n + m.toNat ≤ c), ¬ (((n + m.toNat : Nat) : Int) > IntKind.i64.max) ∧ ¬ (Builtin.nextslicecap (n + m.toNat) c * i.bytes > 2 ^ 48) := by
    intro hfit
    unfold q6z at hK
    rw [if_neg hfit] at hK
    obtain ⟨hb, hmx, _⟩ := hK
    have hcap := qga (n + m.toNat) c (by omega)
    constructor
    · simp [IntKind.max, IntKind.signed, IntKind.bits]; omega
    · have : Builtin.nextslicecap (n + m.toNat) c * i.bytes ≤ 2 * (n + m.toNat) * i.bytes := Nat.mul_le_mul_right _ hcap
      have h3 : 2 * (n + m.toNat) * i.bytes = 2 * ((n + m.toNat) * i.bytes) := Nat.mul_assoc _ _ _
      omega
  simp only [Sem.run_bind, run_underlying h1, run_underlying h2, q0p hS, Result.andThen_ok, Sem.run_pure, if_true, Sem.run_ite, asInt, asIntOf, wm, g1, if_false, q1y hi, g2, Bool.not_true, Bool.false_eq_true, true_or, and_true]
  by_cases hfit : n + m.toNat ≤ c
  · simp only [hfit, if_true]; rfl
  · obtain ⟨f1, f2⟩ := fin hfit
    simp only [hfit, if_false, f1, f2]
theorem qkj (hs : Sat h w) {t : TypeId} {size : Nat} (hz : q2i P t = some size) {p : Addr} {v : Value} {h' : Heap} (h1 : v.cells.size = size) (h2 : ∀ u ∈ v.cells.toList, one u = true) (h3 : q7p h p v.cells.toList = some h') :
    ∃ w', (Instr.storeAt t (.pointer (some p)) v).run P w = .ok () w' ∧ Sat h' w' ∧ Fr h h' w w' := by
  obtain ⟨w', hr, hs', hf⟩ := qcx (P := P) hs h2 h3
  refine ⟨w', ?_, hs', hf⟩
  simp only [Instr.storeAt, Instr.sureAddr, Sem.run_bind, Sem.run_pure, Result.andThen_ok, storeVar, q0p hz]
  simp [h1, hr]
theorem copy_out (hs : Sat h w) (argTypes : Array TypeId) (t ty e : TypeId) (size : Nat) (hT0 : argTypes[0]? = some t) (h1 : P.underlying t = some (.slice e)) (hz : q2i P e = some size) (base : Option Addr) (n c : Nat) (sv : Value)
    (m : Nat) (cells : List Value) (hl : ∀ w : World, (Builtin.lenOf sv).run P w = .ok m w) (hf : (Builtin.firstCells size (min m n) sv).run P w = .ok cells.toArray w)
    (h3 : ∀ u ∈ cells, one u = true) (hK : match base with | none => K (.int .i64 (min m n : Nat)) h | some a => (match q7p h a cells with | some h' => K (.int .i64 (min m n : Nat)) h' | none => False)) :
    Out P (Builtin.copy_ argTypes ty #[.slice base n c, sv]) h w K := by
  unfold Builtin.copy_ Out
  have hx0 : ((#[Value.slice base n c, sv] : Array Value)[0]?) = some (.slice base n c) := rfl
  have hx1 : ((#[Value.slice base n c, sv] : Array Value)[1]?) = some sv := rfl
  simp only [hT0, hx0, hx1, Sem.run_bind, run_underlying h1, Result.andThen_ok, hl, q0p hz]
  have hm : Nat.min m n = min m n := rfl
  rw [hm, hf]
  simp only [Result.andThen_ok]
  cases base with
  | none => exact ⟨_, h, w, rfl, hs, Fr.qfx _ _, hK⟩
  | some a =>
    simp only at hK
    split at hK
    · rename_i h' hst
      obtain ⟨w', hr, hs', hfr⟩ := qcx (P := P) hs h3 hst
      refine ⟨_, h', w', ?_, hs', hfr, hK⟩
      simp [hr, goInt]
    · exact hK.elim
theorem qew {r : Nat} {o o' : Obj} (hs : Sat h w) (hr : h r = some (.obj o)) (hn : Obj.qco o' = true) :
    Sat (h.set r (.obj o')) { w with heap := w.heap.setIfInBounds r o' } ∧ Fr h (h.set r (.obj o')) w { w with heap := w.heap.setIfInBounds r o' } := by
  have hlt := hs.lt hr
  constructor
  · refine qev hs ⟨by simp [hlt], hn⟩ ?_
    intro c hne _
    simp [Array.getElem?_setIfInBounds_ne (Ne.symm hne)]
  · refine ⟨rfl, rfl, ⟨rfl, Nat.le_refl _⟩, by simp, ?_, ?_, ?_⟩
    · intro b hb hf
      have hne : r ≠ b := by
        intro he; subst he
        rcases hf with hf | ⟨o2, hf⟩ <;> rw [hr] at hf <;> cases hf
      simp [Array.getElem?_setIfInBounds_ne hne]
    · intro b hnn hs'
      unfold Heap.set at hs'
      split at hs'
      · rename_i he; subst he; rw [hr] at hnn; cases hnn
      · exact absurd hnn hs'
    · intro b o2 hro
      unfold Heap.set
      split
      · rename_i he; subst he; rw [hr] at hro; cases hro
      · exact hro
theorem q9t {r : Nat} {o o' : Obj} (hs : Sat h w) (hr : h r = some (.obj o)) : (setObj r o').run P w = .ok () { w with heap := w.heap.setIfInBounds r o' } := by
  obtain ⟨ho, hn⟩ := hs _ _ hr
  cases o <;> simp [Obj.qco] at hn <;> simp [setObj, Sem.run, ho]
theorem qca {r : Nat} {es : Array MapEntry} {c : Nat} (hr : h r = some (.obj (.map es c))) : q8n h r = some (es, c) := by simp [q8n, hr]
theorem qe8 {kt : KeyT} {a b : Value} (hk : keyV kt a b = some true) : Instr.sameBits 10000 b a = true := by
  unfold keyV at hk
  split at hk
  · split at hk
    · rename_i hkk
      simp only [Option.some.injEq, beq_iff_eq] at hk
      subst hkk; subst hk
      simp [Instr.sameBits]
    · cases hk
  · simp only [Option.some.injEq] at hk
    simp only [Instr.sameBits, beq_toListBytes]
    simpa using (by simpa using hk : _ = _).symm
  · split at hk
    · rename_i hc
      simp only [Bool.and_eq_true] at hc
      simp only [Option.some.injEq] at hk
      rename_i ks a b
      have key : ∀ (ks : List (Option IntKind)) (xs ys : List Value), q05 ks xs = true → q05 ks ys = true → q0k xs ys = true → xs.length = ys.length ∧ (ys.zip xs).all (fun x => Instr.sameBits 9999 x.1 x.2) = true := by
        intro ks
        induction ks with
        | nil =>
          intro xs ys h1 h2 _
          cases xs <;> cases ys <;> simp_all [q05]
        | cons k ks ih =>
          intro xs ys h1 h2 h3
          cases xs with
          | nil => simp [q05] at h1
          | cons x xs =>
            cases ys with
            | nil => simp [q05] at h2
            | cons y ys =>
              simp only [q05, q0k, Bool.and_eq_true] at h1 h2 h3
              obtain ⟨e1, e2⟩ := ih xs ys h1.2 h2.2 h3.2
              refine ⟨by simp [e1], ?_⟩
              simp only [List.zip_cons_cons, List.all_cons, Bool.and_eq_true]
              refine ⟨?_, e2⟩
              cases k with
              | none =>
                cases x <;> simp [q8p] at h1
                cases y <;> simp [q8p] at h2
                have := h3.1
                simp only [qcb] at this
                simp only [Instr.sameBits, beq_toListBytes]
                simpa using (by simpa using this : _ = _).symm
              | some k =>
                cases x <;> simp [q8p] at h1
                cases y <;> simp [q8p] at h2
                have := h3.1
                simp only [qcb] at this
                obtain ⟨rfl, _⟩ := h1
                obtain ⟨rfl, _⟩ := h2
                simp only [Instr.sameBits]
                simpa using (by simpa using this : _ = _).symm
      obtain ⟨e1, e2⟩ := key ks a.toList b.toList hc.1 hc.2 hk
      rw [show (10000 : Nat) = 9999 + 1 from rfl]
      simp only [Instr.sameBits, Bool.and_eq_true, beq_iff_eq]
      refine ⟨by simpa using e1.symm, ?_⟩
      simpa using e2
    · cases hk
  · cases hk
end
section
variable {E : Env} {ρ : Opd → Option Value} {h : Heap} {w : World} {K : Value → Heap → Prop} {a : Act}
theorem q3i {P : Program} {o : Oper} {v : Value} {w' : World} {next : Act → World → Prop} {Q : Exit → Act → World → Prop} (hr : (execOp a.eval o).run P w = .ok (.value v) w') (hn : next (a.put o.dst v) w') : o.wp P a w next Q := by
  unfold Oper.wp; rw [hr]; exact hn
theorem qct {P : Program} {o : Oper} {w' : World} {next : Act → World → Prop} {Q : Exit → Act → World → Prop} (hr : (execOp a.eval o).run P w = .ok .skip w') (hn : next (a.put o.dst undef) w') : o.wp P a w next Q := by
  unfold Oper.wp; rw [hr]; exact hn
theorem qg4 {P : Program} {o : Oper} {f : FuncId} {args : Array Value} {next : Act → World → Prop} {Q : Exit → Act → World → Prop} {R : Ending → World → Prop} (hr : (execOp a.eval o).run P w = .ok (.enter f args) w)
    (hcl : Calls P f args w R) (hn : ∀ e w', R e w' → ∃ v, e = .returned v ∧ next (a.put o.dst v) w') : o.wp P a w next Q := by
  unfold Oper.wp; rw [hr]
  refine hcl.mono fun e w' hR => ?_
  obtain ⟨v, rfl, h⟩ := hn e w' hR
  exact h
theorem q7f (E : Env) {n : Nat} {f : FuncId} (hf : E.fid n = some f) (args : Array Value) (w : World) : (callFunc f args).run E.P w = .ok (.enter f args) w := by
  obtain ⟨fn, h1, h2, h3⟩ := E.body_ok n f hf
  have h4 : fn.name ≠ "runtime.NumGoroutine" := by simpa using h3
  have h5 : fn.body ≠ none := by
    intro hb; rw [hb] at h2; cases h2
  simp [callFunc, h1, h4, h5]
theorem qeq {o : Oper} {s : Sem Value} (he : execOp a.eval o = (do pure (Next.value (← s)))) (ho : Out E.P s h w K) {next : Act → World → Prop} {Q : Exit → Act → World → Prop}
    (hn : ∀ v h' w', Sat h' w' → Fr h h' w w' → K v h' → next (a.put o.dst v) w') : o.wp E.P a w next Q := by
  obtain ⟨v, h', w', hr, hs', hf, hk⟩ := ho
  exact q3i (v := v) (w' := w') (by rw [he]; simp [hr]) (hn v h' w' hs' hf hk)
theorem qi5 (ρ : Operand → Value) (o : Oper) (b : Builtin) (args : Array Operand) (argTypes : Array TypeId) (ho : o.op = .call { callee := .builtin b, args := args, argTypes := argTypes }) :
    ∃ cs, execOp ρ o = builtin b argTypes o.type cs (args.map ρ) := by
  unfold execOp
  rw [ho]
  exact ⟨_, rfl⟩
theorem qjz {P : Program} (hs : Sat h w) {b : Addr} {st : Nat} {vs : List Value} {sz : Nat} (hb : h b.block = some (.own st vs sz)) :
    ∃ w', (markStringish b).run P w = .ok () w' ∧ Sat h w' ∧ Fr h h w w' := by
  obtain ⟨carr, e, fr, ho, hsz, hle, hc, hf⟩ := hs _ _ hb
  have hlt := hs.lt hb
  have hshape : w.shape? b.block = some (e, carr.size) := by simp [World.shape?, ho]
  have hheap : ∀ k, (w.freeze ⟨b.block, carr.size, none⟩ 1).heap[k]? = if k = b.block then some (.cells carr e (if fr.1 == fr.2 then (carr.size, carr.size + 1) else (min fr.1 carr.size, max fr.2 (carr.size + 1)))) else w.heap[k]? := by
    intro k
    simp only [World.freeze, Nat.one_ne_zero, if_false, Array.getElem?_modify]
    by_cases hk : k = b.block
    · subst hk; simp [ho]
    · rw [if_neg (Ne.symm hk), if_neg hk]
  refine ⟨w.freeze ⟨b.block, carr.size, none⟩ 1, ?_, ?_, ?_⟩
  · simp [markStringish, hshape]
  · intro c y hy
    rw [hheap c]
    by_cases hk : c = b.block
    · subst hk
      rw [hb] at hy
      simp only [Option.some.injEq] at hy; subst hy
      rw [if_pos rfl]
      refine ⟨carr, e, _, rfl, hsz, hle, hc, ?_⟩
      split
      · right; simp; omega
      · rename_i hne
        have hne' : fr.1 ≠ fr.2 := by simpa using hne
        rcases hf with h1 | h1
        · exact absurd h1 hne'
        · right; simp; omega
    · rw [if_neg hk]; exact hs c y hy
  · refine ⟨by simp [World.freeze], by simp [World.freeze], by simp [World.freeze], by simp [World.freeze], ?_, fun _ x y => absurd x y, fun _ _ x => x⟩
    intro c hlt' hfree
    rw [hheap c, if_neg]
    intro he; subst he
    rcases hfree with h1 | ⟨o, h1⟩ <;> rw [hb] at h1 <;> cases h1
theorem qgb (hs : Sat h w) (ha : qdn E.ψ ρ a.eval) {o : Oper} {ao : AOp} {t : TypeId} {m k v : Operand}
    (hc : (match conO E.ψ m, conO E.ψ k, conO E.ψ v, E.P.underlying t with | some m, some k, some v, some (.map kt _) => (keyT E.P kt).map fun kt => AOp.mupd kt m k v | _, _, _, _ => none) = some ao)
    (hK : q13 E ρ h K ao) (hex : execOp a.eval o = (do Instr.mapUpdate t (a.eval m) (a.eval k) (a.eval v); pure .skip)) {next : Act → World → Prop} {Q : Exit → Act → World → Prop}
    (hn : ∀ v h' w', Sat h' w' → Fr h h' w w' → K v h' → next (a.put o.dst v) w') : o.wp E.P a w next Q := by
  split at hc
  · rename_i m' k' v' kt e hm hk hv h1
    simp only [Option.map_eq_some_iff] at hc
    obtain ⟨kt', hkt, rfl⟩ := hc
    simp only [q13] at hK
    split at hK
    · rename_i r kv vv hmr hkv hvv
      split at hK
      · rename_i es c hr
        have e1 := ha m m' _ hm hmr
        have e2 := ha k k' _ hk hkv
        have e3 := ha v v' _ hv hvv
        split at hK
        · rename_i uu i val hu hf
          have hck := q24 hkt hu false w
          have hfk := q34 hkt hf w
          obtain ⟨sa, fr⟩ := qew (o' := .map (es.modify i fun e => { e with key := kv, val := vv }) c) hs hr rfl
          refine qct (w' := _) ?_ (hn _ _ _ sa fr hK)
          have hgk : (Instr.keyThatStays (((es[i]?).map (·.key)).getD kv) kv).run E.P w = .ok kv w := by
            have hfound : ∀ (l : List MapEntry) (j i : Nat) (val : Value), q6d kt' kv l j = some (some (i, val)) → ∃ e : MapEntry, j ≤ i ∧ l[i - j]? = some e ∧ keyV kt' kv e.key = some true := by
              intro l
              induction l with
              | nil => intro j i val hh; simp [q6d] at hh
              | cons x l ih =>
                intro j i val hh
                unfold q6d at hh
                split at hh
                · rename_i hkx
                  simp only [Option.some.injEq, Prod.mk.injEq] at hh
                  obtain ⟨rfl, _⟩ := hh
                  exact ⟨x, Nat.le_refl _, by simp, hkx⟩
                · obtain ⟨e, h1, h2, h3⟩ := ih _ _ _ hh
                  refine ⟨e, by omega, ?_, h3⟩
                  rw [show i - j = (i - (j + 1)) + 1 from by omega]
                  simpa using h2
                · cases hh
            obtain ⟨en, _, hen, hkv2⟩ := hfound _ _ _ _ hf
            have hen' : es[i]? = some en := by simpa using hen
            simp only [hen', Option.map_some, Option.getD_some, Instr.keyThatStays]
            rw [if_pos (qe8 hkv2)]; rfl
          rw [hex, e1, e2, e3]
          simp only [Instr.mapUpdate, Sem.run_bind, run_underlying h1, Result.andThen_ok, q7s hs (qca hr), hck, hfk, hgk, q9t hs hr, Sem.run_pure]
        · rename_i uu hu hf
          have hck := q24 hkt hu false w
          have hfk := q34 hkt hf w
          obtain ⟨sa, fr⟩ := qew (o' := .map (es.push { key := kv, val := vv, born := c }) (c + 1)) hs hr rfl
          refine qct (w' := _) ?_ (hn _ _ _ sa fr hK)
          rw [hex, e1, e2, e3]
          simp only [Instr.mapUpdate, Sem.run_bind, run_underlying h1, Result.andThen_ok, q7s hs (qca hr), hck, hfk, q9t hs hr, Sem.run_pure]
        · exact hK.elim
      · exact hK.elim
    · exact hK.elim
  · cases hc
theorem qbu {m : Nat} {es : Array MapEntry} {c : Nat} (hs : Sat h w) (hm : q8n h m = some (es, c)) : w.heap[m]? = some (.map es c) := by
  unfold q8n at hm
  split at hm
  · rename_i es2 c2 hb
    simp only [Option.some.injEq, Prod.mk.injEq] at hm
    obtain ⟨rfl, rfl⟩ := hm
    exact (hs _ _ hb).1
  · rename_i es2 c2 hb
    simp only [Option.some.injEq, Prod.mk.injEq] at hm
    obtain ⟨rfl, rfl⟩ := hm
    exact hs _ _ hb
  · cases hm
theorem q9u {P : Program} {r : Nat} {o : Obj} (hr : w.heap[r]? = some o) (hn : Obj.qco o = true) : (getObj r).run P w = .ok o w := by
  cases o <;> first | (cases hn; done) | simp [getObj, Sem.run, hr]
theorem qig (hs : Sat h w) (ha : qdn E.ψ ρ a.eval) {o : Oper} {ao : AOp} (hc : q8b E.P E.ψ o.op = some ao) (hK : q13 E ρ h K ao) {next : Act → World → Prop} {Q : Exit → Act → World → Prop}
    (hn : ∀ v h' w', Sat h' w' → Fr h h' w w' → K v h' → next (a.put o.dst v) w') : o.wp E.P a w next Q := by
  have hc0 := hc
  unfold q8b at hc
  cases hop : o.op <;> rw [hop] at hc <;> simp only at hc
  case store t x y =>
    split at hc
    · rename_i x' y' size hx hy hz
      simp only [Option.some.injEq] at hc; subst hc
      simp only [q13] at hK
      split at hK
      · rename_i p v hp hv
        obtain ⟨h1, h2, hK⟩ := hK
        split at hK
        · rename_i h' hst
          obtain ⟨w', hr, hs', hf⟩ := qkj (P := E.P) hs hz h1 h2 hst
          refine qct (w' := w') ?_ (hn _ _ _ hs' hf hK)
          unfold execOp; rw [hop]
          simp only [ha x x' _ hx hp, ha y y' _ hy hv]
          simp [hr]
        · exact hK.elim
      · exact hK.elim
    · cases hc
  case convert s d x =>
    split at hc
    all_goals try (simp only [Option.some.injEq] at hc; subst hc; exact (by simp [q13] at hK : False).elim)
    · rename_i x' e hx h1 h2
      split at hc
      · simp only [Option.some.injEq] at hc; subst hc; exact (by simp [q13] at hK : False).elim
      · cases hc
    · rename_i x' e hx h1 h2
      split at hc
      · rename_i h3
        simp only [Option.some.injEq] at hc; subst hc
        simp only [q13] at hK
        split at hK
        · rename_i str hsx
          refine qeq (h := h) (K := K) (s := convert s d (.string str)) (by unfold execOp; rw [hop]; simp only [ha x x' _ hx hsx]) ?_ hn
          generalize hcap : (Question.appendCap str.size 0 e).cut (w.tape w.drawn (.appendCap str.size 0 e)) = cap
          have hge : str.size ≤ cap := by rw [← hcap]; simp [Question.cut]
          have hk := hK w.heap.size cap (hs.none_of_ge (Nat.le_refl _)) hge
          let row : Array Value := str.data.map (fun b => Value.int .u8 b.toNat) ++ Array.replicate (cap - str.size) (.int .u8 0)
          have hrow : row.size = cap := by simp [row]; omega
          let w1 : World := { w with drawn := w.drawn + 1, heap := w.heap.push (.cells row e) }
          refine ⟨_, _, w1.freeze ⟨w.heap.size, cap, none⟩ 1, ?_, ?_, ?_, hk⟩
          · simp only [convert, Sem.run_bind, run_underlying h1, run_underlying h2, run_underlying h3, Result.andThen_ok, Conv.stringToBytes, run_choose, Question.forced, Bool.false_eq_true, if_false, hcap]
            simp only [newRow, Sem.run_bind, run_newObj, Result.andThen_ok, Sem.run_pure, markStringish, run_shape]
            have hsh : w1.shape? w.heap.size = some (e, cap) := by
              simp [World.shape?, w1, hrow]
            change (Sem.run E.P (match w1.shape? w.heap.size with | some (fst, n) => freeze { block := w.heap.size, off := n } 1 | x => pure ()) w1).andThen _ = _
            rw [hsh]
            rfl
          · have hx : (w1.freeze ⟨w.heap.size, cap, none⟩ 1).heap = w.heap.push (.cells row e (cap, cap + 1)) := by
              simp only [World.freeze, Nat.one_ne_zero, if_false, w1]
              apply Array.ext_getElem?
              intro k
              rw [Array.getElem?_modify]
              split
              · rename_i hk2; subst hk2; simp
              · rename_i hk2; simp [Array.getElem?_push, Ne.symm hk2]
            refine Sat.q9g (w := { w with heap := w.heap.push (.cells row e (cap, cap + 1)) }) hx ?_
            refine qau hs ⟨row, e, (cap, cap + 1), rfl, hrow, by simpa using hge, ?_, .inr (Nat.le_refl _)⟩
            · intro i v hv
              rw [Nat.zero_add]
              simp only [List.getElem?_map, Option.map_eq_some_iff] at hv
              obtain ⟨b, hb, rfl⟩ := hv
              have hlt : i < str.data.size := by
                rcases Nat.lt_or_ge i str.data.size with g | g
                · exact g
                · rw [List.getElem?_eq_none (by simpa using g)] at hb; cases hb
              simp only [row, Array.getElem?_append, Array.size_map, hlt, if_true, Array.getElem?_map]
              have : str.data[i]? = some b := by simpa using hb
              simp [this]
          · have hx : (w1.freeze ⟨w.heap.size, cap, none⟩ 1).heap = w.heap.push (.cells row e (cap, cap + 1)) := by
              simp only [World.freeze, Nat.one_ne_zero, if_false, w1]
              apply Array.ext_getElem?
              intro k
              rw [Array.getElem?_modify]
              split
              · rename_i hk2; subst hk2; simp
              · rename_i hk2; simp [Array.getElem?_push, Ne.symm hk2]
            exact Fr.trans (qdd hs _ (.cells row e (cap, cap + 1))) (Fr.qdm hx rfl rfl ⟨rfl, by first | exact Nat.le_refl _ | exact Nat.le_succ _⟩)
        · exact hK.elim
      · cases hc
    · rename_i x' e1 e hx h1 h2
      split at hc
      · rename_i h3
        split at hc
        · rename_i hsd
          simp only [Option.some.injEq] at hc; subst hc
          simp only [q13] at hK
          split at hK
          · rename_i b n c hsx
            split at hK
            · rename_i st vs sz hb
              refine qeq (h := h) (K := K) (s := convert s d (.slice (some b) n c)) (by unfold execOp; rw [hop]; simp only [ha x x' _ hx hsx]) ?_ hn
              obtain ⟨w', hr, hs', hf⟩ := qjz (P := E.P) hs hb
              refine ⟨_, h, w', ?_, hs', hf, hK⟩
              have hsd' : s = d := by simpa using hsd
              subst hsd'
              rw [h1] at h2
              simp only [Option.some.injEq, TypeDesc.slice.injEq] at h2
              subst h2
              simp only [convert, Sem.run_bind, run_underlying h1, run_underlying h3, Result.andThen_ok, beq_self_eq_true]
              simp [hr]
            · exact hK.elim
          · exact hK.elim
        · cases hc
      · cases hc
    · cases hc
  case range t x =>
    split at hc
    · rename_i x' k e hx ht
      simp only [Option.some.injEq] at hc; subst hc
      simp only [q13] at hK
      split at hK
      · rename_i hv
        refine q3i (w' := w.alloc (.mapIter none 0 #[] 0)) ?_ (hn _ _ _ (qau hs (x := .obj (.mapIter none 0 #[] 0)) ⟨rfl, rfl⟩) (qdd hs _ _) (hK _ (hs.none_of_ge (Nat.le_refl _))))
        unfold execOp; rw [hop]
        simp only [ha x x' _ hx hv]
        simp [run_range_nilMap w t _ _ ht]
      · rename_i m hv
        split at hK
        · rename_i es c hm
          have hbo := qbu hs hm
          refine q3i (w' := w.alloc (.mapIter (some m) c #[] c)) ?_ (hn _ _ _ (qau hs (x := .obj (.mapIter (some m) c #[] c)) ⟨rfl, rfl⟩) (qdd hs _ _) (hK _ (hs.none_of_ge (Nat.le_refl _))))
          unfold execOp; rw [hop]
          simp only [ha x x' _ hx hv]
          simp [run_range_map w t _ _ m es c ht hbo]
        · exact hK.elim
      · exact hK.elim
    · cases hc
  case next x q =>
    cases q with
    | true => rw [if_pos rfl] at hc; cases hc
    | false =>
    rw [if_neg (by simp)] at hc
    simp only [Option.map_eq_some_iff] at hc
    obtain ⟨x', hx, rfl⟩ := hc
    simp only [q13] at hK
    split at hK
    · rename_i r hv
      split at hK
      · rename_i a b c hr
        refine q3i (w' := w) ?_ (hn _ _ _ hs (Fr.qfx _ _) hK)
        unfold execOp; rw [hop]
        simp only [ha x x' _ hx hv]
        simp [Instr.next, q9u (hs _ _ hr).1 rfl]
      · rename_i m since seen c0 hr
        split at hK
        · rename_i es clock hm
          obtain ⟨k1, k2, k3, k4⟩ := hK
          have hbo := qbu hs hm
          have hex : (execOp a.eval o).run E.P w = ((do pure (Next.value (← Instr.next (.pointer (some ⟨r, 0, none⟩)) false o.type)) : Sem Next)).run E.P w := by
            unfold execOp; rw [hop]
            simp only [ha x x' _ hx hv]
          rcases run_next_at (P := E.P) w o.type r m since c0 seen es clock (hs _ _ hr).1 hbo k1 k2 with ⟨h0, hrun⟩ | ⟨en, hen, w1, hw1, hrun⟩
          · refine q3i (w' := w) ?_ (hn _ _ _ hs (Fr.qfx _ _) (k3 h0))
            rw [hex]
            simp [hrun]
          · have hwh : w1.heap = w.heap ∧ w1.os = w.os ∧ w1.tape = w.tape ∧ (w1.output = w.output ∧ w.drawn ≤ w1.drawn) := by
              rcases hw1 with rfl | rfl
              · exact ⟨rfl, rfl, rfl, rfl, Nat.le_refl _⟩
              · exact ⟨rfl, rfl, rfl, rfl, Nat.le_succ _⟩
            obtain ⟨e1, e2, e3, e4⟩ := hwh
            obtain ⟨sa, fr⟩ := qew (o' := .mapIter (some m) since (seen.push en.born) clock) (Sat.q9g e1 hs) hr rfl
            refine q3i (w' := ChangeMaps.setBlock w1 r (.mapIter (some m) since (seen.push en.born) clock)) ?_ (hn _ _ _ sa ((Fr.qdm e1 e2 e3 e4).trans fr) (k4 en hen))
            rw [hex]
            simp [hrun]
        · exact hK.elim
      · exact hK.elim
    · exact hK.elim
  case entry x =>
    simp only [Option.map_eq_some_iff] at hc
    obtain ⟨x', hx, rfl⟩ := hc
    simp only [q13] at hK
    split at hK
    · rename_i r hv
      split at hK
      · rename_i m since seen c0 hr
        split at hK
        · rename_i es clock hm
          split at hK
          · rename_i stamp hst
            split at hK
            · rename_i en hen
              obtain ⟨rfl, hK⟩ := hK
              refine q3i (w' := w) ?_ (hn _ _ _ hs (Fr.qfx _ _) hK)
              unfold execOp; rw [hop]
              simp only [ha x x' _ hx hv]
              simp [Instr.entry, q9u (hs _ _ hr).1 rfl, q9u (qbu hs hm) rfl, hst, hen]
            · exact hK.elim
          · exact hK.elim
        · exact hK.elim
      · exact hK.elim
    · exact hK.elim
  case mapUpdate t m k v =>
    exact qgb hs ha hc hK (by unfold execOp; rw [hop]) hn
  case insert t m k v =>
    exact qgb hs ha hc hK (by unfold execOp; rw [hop]) hn
  case call c =>
    obtain ⟨callee, args, argTypes⟩ := c
    unfold qe4 at hc
    simp only at hc
    cases callee with
    | invoke r m => simp at hc
    | value f =>
      have callv : ∀ (x : Operand) (y : Opd) (xs : List Opd), f = x → conO E.ψ x = some y → conL E.ψ args.toList = some xs → q13 E ρ h K (.callv y xs) → o.wp E.P a w next Q := by
        intro x y xs hfx hy hxs hK
        subst hfx
        simp only [q13] at hK
        split at hK
        · rename_i g first cap vs hg hvs
          obtain ⟨⟨m, hm⟩, hcl⟩ := hK
          have e1 := ha _ _ _ hy hg
          have e2 : args.map a.eval = vs.toArray := Array.ext' (by simpa using qdg ha hxs hvs)
          have hcl' := hcl w hs
          refine qg4 (f := g) (args := (first.toList ++ vs ++ cap.toList).toArray) ?_ hcl' ?_
          · unfold execOp; rw [hop]
            simp only [Sem.run_bind, resolve, Deferred.ofValue, e1, e2, Sem.run_pure, Result.andThen_ok, invoke]
            rw [show (first ++ vs.toArray ++ cap) = (first.toList ++ vs ++ cap.toList).toArray from by apply Array.ext'; simp]
            exact q7f E hm _ w
          · rintro e w' ⟨v, h', rfl, hs', hf, hk⟩
            exact ⟨v, rfl, hn v h' w' hs' hf hk⟩
        · exact hK.elim
      cases hfc : f with
      | func fid =>
        rw [hfc] at hc
        simp only at hc
        split at hc
        · cases hc
        · rename_i fn hfn
          split at hc
          · split at hc
            · split at hc
              · simp only [Option.some.injEq] at hc; subst hc; exact (by simp [q13] at hK : False).elim
              · cases hc
            · cases hc
          · split at hc
            · rename_i n xs hnn hxs
              simp only [Option.some.injEq] at hc; subst hc
              simp only [q13] at hK
              split at hK
              · rename_i vs hvs
                have hfid := E.fid_ok _ _ hnn
                have e2 : args.map a.eval = vs.toArray := Array.ext' (by simpa using qdg ha hxs hvs)
                refine qg4 (f := fid) (args := vs.toArray) ?_ (hK fid hfid w hs) ?_
                · unfold execOp; rw [hop, hfc]
                  simp only [Sem.run_bind, resolve, Deferred.ofValue, e2, Sem.run_pure, Result.andThen_ok, invoke, Act.eval]
                  rw [show ((#[] : Array Value) ++ vs.toArray ++ #[]) = vs.toArray from by simp]
                  exact q7f E hfid _ w
                · rintro e w' ⟨v, h', rfl, hs', hf, hk⟩
                  exact ⟨v, rfl, hn v h' w' hs' hf hk⟩
              · exact hK.elim
            · cases hc
      | tmp t =>
        rw [hfc] at hc; simp only at hc
        split at hc
        · rename_i y xs hy hxs
          simp only [Option.some.injEq] at hc; subst hc
          exact callv _ _ _ hfc hy hxs hK
        · cases hc
      | const v =>
        rw [hfc] at hc; simp only at hc
        split at hc
        · rename_i y xs hy hxs
          simp only [Option.some.injEq] at hc; subst hc
          exact callv _ _ _ hfc hy hxs hK
        · cases hc
      | global g =>
        rw [hfc] at hc; simp only at hc
        split at hc
        · rename_i y xs hy hxs
          simp [conO] at hy
        · cases hc
    | builtin b =>
      simp only at hc
      obtain ⟨cs, hex⟩ := qi5 a.eval o b args argTypes hop
      split at hc
      case h_5 s x t u ts h1 h2 =>
        obtain ⟨s0, x0, hA0, hs0, hx0⟩ := qcj h1
        have hA : args = #[s0, x0] := by apply Array.ext'; simpa using hA0
        have hT0 : argTypes[0]? = some t := by have := congrArg (·[0]?) h2; simpa using this
        have hT1 : argTypes[1]? = some u := by have := congrArg (·[1]?) h2; simpa using this
        subst hA
        have appendCase : ∀ e (i : TypeInfo) z, E.P.underlying t = some (.slice e) → ((∃ e2, E.P.underlying u = some (.slice e2)) ∨ E.P.underlying u = some .string) → E.P.info? e = some i → qc1 E.P e = some z → (i.size == z.length && decide (0 < i.size)) = true →
            q13 E ρ h K (.append i.size i.bytes s x) → o.wp E.P a w next Q := by
          intro e i z hu1 hu2 hi hz hcond hK
          simp only [Bool.and_eq_true, beq_iff_eq, decide_eq_true_eq] at hcond
          simp only [q13] at hK
          split at hK
          · rename_i base n c xv hsv hxv
            split at hK
            · rename_i m news hrx
              refine qeq (h := h) (K := K) (s := Builtin.append_ argTypes o.type #[.slice base n c, xv]) ?_ (qk4 hs argTypes t u o.type e i z base n c m xv news hT0 hT1 hu1 hu2 hi hz hcond.1 hcond.2 hrx hK) hn
              rw [hex]
              simp only [builtin, List.map_toArray, List.map_cons, List.map_nil, ha s0 s _ hs0 hsv, ha x0 x _ hx0 hxv]
            · exact hK.elim
          · exact hK.elim
        split at hc
        · rename_i e e2 hu1 hu2
          split at hc
          · rename_i i z hi hz
            split at hc
            · rename_i hcond
              simp only [Option.some.injEq] at hc; subst hc
              exact appendCase e i z hu1 (.inl ⟨e2, hu2⟩) hi hz hcond hK
            · cases hc
          · cases hc
        · rename_i e hu1 hu2
          split at hc
          · rename_i i z hi hz
            split at hc
            · rename_i hcond
              simp only [Option.some.injEq] at hc; subst hc
              exact appendCase e i z hu1 (.inr hu2) hi hz hcond hK
            · cases hc
          · cases hc
        · rename_i e ku hu1 hu2
          split at hc
          · rename_i i z hi hz
            split at hc
            · rename_i hcond
              simp only [Option.some.injEq] at hc; subst hc
              simp only [Bool.and_eq_true, beq_iff_eq, decide_eq_true_eq] at hcond
              simp only [q13] at hK
              split at hK
              · rename_i base n c kx m hsv hxv
                obtain ⟨g1, g2, g3, hK⟩ := hK
                refine qeq (h := h) (K := K) (s := Builtin.append_ argTypes o.type #[.slice base n c, .int kx m]) ?_ (qiz hs argTypes t u o.type e ku kx i z base n c m hT0 hT1 hu1 hu2 hi hz hcond.1 hcond.2 g1 g2 g3 hK) hn
                rw [hex]
                simp only [builtin, List.map_toArray, List.map_cons, List.map_nil, ha s0 s _ hs0 hsv, ha x0 x _ hx0 hxv]
              · exact hK.elim
            · cases hc
          · cases hc
        · cases hc
      case h_6 d s t ts h1 h2 =>
        obtain ⟨d0, s0, hA0, hd0, hs0⟩ := qcj h1
        have hA : args = #[d0, s0] := by apply Array.ext'; simpa using hA0
        have hT0 : argTypes[0]? = some t := by have := congrArg (·[0]?) h2; simpa using this
        subst hA
        split at hc
        · rename_i e hu1
          simp only [Option.map_eq_some_iff] at hc
          obtain ⟨size, hz, rfl⟩ := hc
          have fin : ∀ (base : Option Addr) (n c : Nat) (sv : Value) (m : Nat) (cells : List Value), ρ d = some (.slice base n c) → ρ s = some sv → (∀ w : World, (Builtin.lenOf sv).run E.P w = .ok m w) → (Builtin.firstCells size (min m n) sv).run E.P w = .ok cells.toArray w →
              (∀ u ∈ cells, one u = true) → (match base with | none => K (.int .i64 (min m n : Nat)) h | some a => (match q7p h a cells with | some h' => K (.int .i64 (min m n : Nat)) h' | none => False)) → o.wp E.P a w next Q := by
            intro base n c sv m cells hd hsv hl hf h3 hk
            refine qeq (h := h) (K := K) (s := Builtin.copy_ argTypes o.type #[.slice base n c, sv]) ?_ (copy_out hs argTypes t o.type e size hT0 hu1 hz base n c sv m cells hl hf h3 hk) hn
            rw [hex]
            simp only [builtin, List.map_toArray, List.map_cons, List.map_nil, ha d0 d _ hd0 hd, ha s0 s _ hs0 hsv]
          simp only [q13] at hK
          split at hK
          · rename_i base n c b m cs hd hsv
            split at hK
            · rename_i l hl
              obtain ⟨h3, hK⟩ := hK
              exact fin base n c _ m l hd hsv (fun _ => rfl) (q7e hs hl) h3 (by cases base <;> exact hK)
            · exact hK.elim
          · rename_i base n c m cs hd hsv
            obtain ⟨rfl, hK⟩ := hK
            refine fin base n c _ 0 [] hd hsv (fun _ => rfl) rfl (by simp) ?_
            cases base
            · simpa using hK
            · simpa [q7p] using hK
          · rename_i base n c str hd hsv
            have hfc : ∀ sz, (Builtin.firstCells sz (min str.size n) (.string str)).run E.P w = .ok ((str.data.toList.take (min str.size n)).map fun b => Value.int .u8 b.toNat).toArray w := by
              intro sz
              simp only [Builtin.firstCells, Sem.run_pure]
              congr 1
              apply Array.ext'
              simp [List.take_take]
            have hone : ∀ u ∈ (str.data.toList.take (min str.size n)).map (fun b => Value.int .u8 b.toNat), one u = true := by
              intro u hu
              obtain ⟨b, _, rfl⟩ := List.mem_map.1 hu
              rfl
            cases base with
            | none => exact fin none n c _ str.size _ hd hsv (fun _ => rfl) (hfc size) hone hK
            | some b =>
              obtain ⟨hz1, hK⟩ := hK
              exact fin (some b) n c _ str.size _ hd hsv (fun _ => rfl) (hfc size) hone hK
          · exact hK.elim
        · cases hc
      case h_7 m k t ts h1 h2 =>
        obtain ⟨m0, k0, hA0, hm0, hk0⟩ := qcj h1
        have hA : args = #[m0, k0] := by apply Array.ext'; simpa using hA0
        have hT0 : argTypes[0]? = some t := by have := congrArg (·[0]?) h2; simpa using this
        subst hA
        split at hc
        · rename_i kt e hu1
          simp only [Option.map_eq_some_iff] at hc
          obtain ⟨kt', hkt, rfl⟩ := hc
          simp only [q13] at hK
          split at hK
          · rename_i r kv hmr hkv
            split at hK
            · rename_i es c hr
              have hx0 : ((#[Value.map (some r), kv] : Array Value)[0]?) = some (.map (some r)) := rfl
              have hx1 : ((#[Value.map (some r), kv] : Array Value)[1]?) = some kv := rfl
              split at hK
              · rename_i uu i val hu hf
                have hck := q24 hkt hu es.isEmpty w
                have hfk := q34 hkt hf w
                obtain ⟨sa, fr⟩ := qew (o' := .map (es.eraseIdxIfInBounds i) c) hs hr rfl
                refine qeq (h := h) (K := K) (s := Builtin.delete_ argTypes o.type #[.map (some r), kv]) ?_ ⟨_, _, _, ?_, sa, fr, hK⟩ hn
                · rw [hex]
                  simp only [builtin, List.map_toArray, List.map_cons, List.map_nil, ha m0 m _ hm0 hmr, ha k0 k _ hk0 hkv]
                · simp only [Builtin.delete_, hT0, hx0, hx1, Sem.run_bind, run_underlying hu1, Result.andThen_ok, q7s hs (qca hr), hck, hfk, q9t hs hr, Sem.run_pure]
              · rename_i uu hu hf
                have hck := q24 hkt hu es.isEmpty w
                have hfk := q34 hkt hf w
                obtain ⟨sa, fr⟩ := qew (o' := .map es c) hs hr rfl
                refine qeq (h := h) (K := K) (s := Builtin.delete_ argTypes o.type #[.map (some r), kv]) ?_ ⟨_, _, _, ?_, sa, fr, hK⟩ hn
                · rw [hex]
                  simp only [builtin, List.map_toArray, List.map_cons, List.map_nil, ha m0 m _ hm0 hmr, ha k0 k _ hk0 hkv]
                · simp only [Builtin.delete_, hT0, hx0, hx1, Sem.run_bind, run_underlying hu1, Result.andThen_ok, q7s hs (qca hr), hck, hfk, q9t hs hr, Sem.run_pure]
              · exact hK.elim
            · exact hK.elim
          · exact hK.elim
        · cases hc
      all_goals
        exfalso
        repeat' (first | (cases hc; done) | (split at hc))
        all_goals first
          | (simp only [Option.some.injEq] at hc; subst hc; simp [q13] at hK; done)
          | (simp only [Option.map_eq_some_iff] at hc; obtain ⟨_, _, rfl⟩ := hc; simp [q13] at hK; done)
  case binOp =>
    exfalso
    unfold eqOp at hc
    repeat' (first | (cases hc; done) | (split at hc))
    all_goals first
      | (simp only [Option.some.injEq] at hc; subst hc; simp [q13] at hK; done)
      | (simp only [Option.map_eq_some_iff] at hc; obtain ⟨_, _, rfl⟩ := hc; simp [q13] at hK; done)
  case makeFunc fn first captured =>
    exfalso
    cases fn <;> simp only at hc <;> try (cases hc; done)
    split at hc
    · simp only [Option.some.injEq] at hc; subst hc; simp [q13] at hK
    · cases hc
  case build =>
    exfalso
    repeat' (first | (cases hc; done) | (split at hc))
    all_goals
      simp only [Option.map_eq_some_iff] at hc
      obtain ⟨_, _, hc⟩ := hc
      first
        | (subst hc; simp [q13] at hK; done)
        | (split at hc <;> (subst hc; simp [q13] at hK; done))
  all_goals
    exfalso
    repeat' (first | (cases hc; done) | (split at hc))
    all_goals first
      | (simp only [Option.some.injEq] at hc; subst hc; simp [q13] at hK; done)
      | (simp only [Option.map_eq_some_iff] at hc; obtain ⟨_, _, rfl⟩ := hc; simp [q13] at hK; done)
theorem qcv (hs : Sat h w) (ha : qdn E.ψ ρ a.eval) {o : Oper} {ao : AOp} (hc : q8b E.P E.ψ o.op = some ao) (hK : step E ρ h ao K) {next : Act → World → Prop} {Q : Exit → Act → World → Prop}
    (hn : ∀ v h' w', Sat h' w' → Fr h h' w w' → K v h' → next (a.put o.dst v) w') : o.wp E.P a w next Q := by
  have alloc : (match z6m ρ ao with | some (blk, mk) => ∀ b, h b = none → K (mk b) (h.set b blk) | none => False) → o.wp E.P a w next Q := by
    intro hK
    split at hK
    · rename_i blk mk hv
      obtain ⟨obj, hr, hb⟩ := qft (P := E.P) (w := w) ha hc hv
      exact q3i hr (hn _ _ _ (qau hs hb) (qdd hs blk obj) (hK _ (hs.none_of_ge (Nat.le_refl _))))
    · exact hK.elim
  have quiet : (match q00 E.fid ρ h ao with | some v => K v h | none => False) → o.wp E.P a w next Q := by
    intro hK
    split at hK
    · rename_i v hv
      exact q3i (q8i (P := E.P) hs ha E.fid_ok (fun f => rfl) hc hv) (hn _ _ _ hs (Fr.qfx _ _) hK)
    · exact hK.elim
  unfold step at hK
  split at hK
  all_goals first
    | exact alloc hK
    | exact qig hs ha hc hK hn
    | exact hK.elim
    | exact quiet hK
end
abbrev Hint := List (Nat × List Nat × List (Nat × Nat))
section
variable (P : Program) (ψ : FuncId → Option Nat) (N : Nat)
def qir (ops : Array Oper) : Option (Nat × Bool) → Option (Option (Nat × Bool))
  | none => some none
  | some (j, w) => ((ops[j]?).bind (·.dst)).map fun t => some (t, w)
def dstOk : Option Nat → Bool
  | none => true
  | some d => decide (d < N)
def q5j (ops : Array Oper) (i : Nat) : Option AOper :=
  match ops[i]? with
  | none => none
  | some o =>
    match qir ops o.guard with
    | none => none
    | some g =>
      if dstOk N o.dst = true then some { dst := o.dst, op := (q8b P ψ o.op).getD .bad, guard := g } else none
def qao (ops : Array Oper) : List Nat → Option (List AOper)
  | [] => some []
  | i :: is =>
    match q5j P ψ N ops i, qao ops is with
    | some a, some as => some (a :: as)
    | _, _ => none
end
def AOp.isW : AOp → Bool
  | .store .. | .call .. | .callv .. | .append .. | .appendZ .. | .copy .. | .mupd .. | .mdel .. | .rangeM .. | .nextM .. | .entryM .. => true
  | _ => false
def AOp.isM : AOp → Bool
  | .mark .. => true
  | _ => false
def AOp.isS : AOp → Bool
  | .strOf .. => true
  | _ => false
def AOp.isA : AOp → Bool
  | .alloc .. | .box .. | .bslice .. | .mslice .. | .mmap | .bytesOf .. => true
  | _ => false
def Opd.tmps : Opd → List Nat
  | .t i => [i]
  | _ => []
def qf0 (xs : List Opd) : List Nat := xs.flatMap Opd.tmps
def optT : Option Opd → List Nat
  | some x => x.tmps
  | none => []
def AOp.looks : AOp → List Nat
  | .mv x | .load _ x | .nilc x | .un _ x | .conv _ x | .strOf x | .strId x | .faddr _ x | .field _ _ x | .ext x _ | .lenS x | .lenStr x | .capS x | .arrOf _ x | .lenM x | .box x | .bytesOf x | .mark x | .rangeM x | .nextM x | .entryM x => x.tmps
  | .pick a b c => a.tmps ++ b.tmps ++ c.tmps
  | .bin _ x y | .eqv _ _ x y | .eqa _ _ x y | .iaddrA _ _ x y | .iaddrS _ x y | .idxA _ _ _ x y | .idxS x y | .mn x y | .mx x y | .lookup _ _ _ x y | .mslice _ _ x y | .store _ x y | .append _ _ x y | .appendZ _ _ _ x y | .copy _ x y | .mdel _ x y => x.tmps ++ y.tmps
  | .slStr x a b => x.tmps ++ optT a ++ optT b
  | .slSl _ x a b c | .slArr _ _ x a b c => x.tmps ++ optT a ++ optT b ++ optT c
  | .fn _ a b => qf0 a ++ qf0 b
  | .build _ ps | .bslice _ _ _ ps => qf0 (ps.map (·.2.2))
  | .prim _ xs | .call _ xs => qf0 xs
  | .callv f xs => f.tmps ++ qf0 xs
  | .mupd _ a b c => a.tmps ++ b.tmps ++ c.tmps
  | .num _ | .alloc _ | .mmap | .bad => []
def AOper.looks (o : AOper) : List Nat := o.op.looks ++ (match o.guard with | some (g, _) => [g] | none => [])
def q9e (x y : AOper) : Bool :=
  (match x.dst with | some d => !(y.looks.contains d) && y.dst != some d | none => true) &&
  (match y.dst with | some d => !(x.looks.contains d) | none => true)
def anc (ops : Array Oper) : Array Nat := Region.before ops
def qez (bf : Nat → Nat → Bool) : List (Nat × Nat × AOper) → List (Nat × Nat × AOper) → Bool
  | _, [] => true
  | pre, x :: rest =>
    ((pre.filter fun y => !(bf x.1 y.1)).all fun y => q9e y.2.2 x.2.2) &&
    (if x.2.2.op.isW then (pre.filter fun y => !(bf x.1 y.1)).isEmpty
      else x.2.2.op.isA || decide (((pre.filter fun y => !(bf x.1 y.1)).filter fun y => y.2.2.op.isW).length ≤ x.2.1)) &&
    qez bf (pre ++ [x]) rest
def qfk (ops : Array Oper) : List Nat → List Nat → Bool
  | _, [] => true
  | pre, i :: rest => (match ops[i]? with | some o => o.after.toList.all fun e => !Region.binds .any e || pre.contains e.on | none => false) && qfk ops (pre ++ [i]) rest
def ancOk (ops : Array Oper) (A : Array Nat) : Bool :=
  (List.range ops.size).all fun i =>
    match ops[i]? with
    | some o => (o.after.toList.all fun e => !Region.binds .any e || decide (e.on < i)) &&
      A.getD i 0 == o.after.toList.foldl (fun s e => if Region.binds .any e then s ||| 2 ^ e.on ||| A.getD e.on 0 else s) 0
    | none => false
def distinct : List Nat → Bool
  | [] => true
  | x :: r => !(r.contains x) && distinct r
def qjg (ops : Array Oper) (l : List (Nat × Nat × AOper)) : Bool :=
  ancOk ops (anc ops) && qez (fun i j => ((anc ops).getD i 0).testBit j) [] l && qfk ops [] (l.map (·.1)) && ((List.range ops.size).all fun i => (l.map (·.1)).contains i) && distinct (l.map (·.1)) && (l.all fun x => decide (x.1 < ops.size)) && decide (l.length ≤ ops.size)
section
variable (P : Program) (ψ : FuncId → Option Nat) (N : Nat)
def qb4 (ops : Array Oper) : List (Nat × Nat) → Option (List (Nat × Nat × AOper))
  | [] => some []
  | (i, b) :: r =>
    match q5j P ψ N ops i, qb4 ops r with
    | some o, some os => some ((i, b, o) :: os)
    | _, _ => none
def qa6 (H : Hint) : Code → Option ACode
  | .skip => some .skip
  | .region id ops draw =>
    match H.find? (·.1 == id) with
    | none => none
    | some (_, keep, order) =>
      if draw then
        if P.follows .mixedOrders then
          match qb4 P ψ N ops order with
          | some l => if qjg ops l then some (.dops (l.map fun (i, b, o) => { ix := i, dst := o.dst, op := o.op, guard := o.guard, back := b }) keep) else none
          | none => none
        else none
      else (qao P ψ N ops (List.range ops.size)).map fun os => .ops os keep
  | .seq a b =>
    match qa6 H a, qa6 H b with
    | some x, some y => some (.seq x y)
    | _, _ => none
  | .cond c a b =>
    match conO ψ c, qa6 H a, qa6 H b with
    | some c, some x, some y => some (.cond c x y)
    | _, _, _ => none
  | .block id c => (qa6 H c).map (.block id)
  | .loop c => (qa6 H c).map .loop
  | .scope c => (qa6 H c).map .scope
  | .label _ => some .skip
  | .exit id => some (.exit id)
  | .ret => some .ret
  | _ => some .bad
def qi8 : List ResultVar → Option (List ARes)
  | [] => some []
  | .tmp t :: r => (qi8 r).map (.tmp t :: ·)
  | .cell a t :: r =>
    match qbc P t, qi8 r with
    | some k, some rs => some (.cell a k :: rs)
    | _, _ => none
def compF (H : Hint) (fn : Func) : Option q0d :=
  match fn.body with
  | none => none
  | some c =>
    match qa6 P ψ fn.ntmps H c, qi8 P fn.results.toList with
    | some b, some rs => some { np := fn.params.size, nt := fn.ntmps, results := rs, body := b }
    | _, _ => none
end
structure EnvT (tab : Nat → Option (Hint × q0d)) extends Env where
  tab_ok : ∀ n f, fid n = some f → ∃ fn hf, P.funcs[f]? = some fn ∧ tab n = some hf ∧ compF P ψ hf.1 fn = some hf.2
  full : ∀ n, (tab n).isSome = true → ∃ g, fid n = some g
inductive NT where
  | leaf
  | node (k : Nat) (v : Hint × q0d) (l r : NT)
noncomputable def NT.find (t : NT) (n : Nat) : Option (Hint × q0d) :=
  NT.rec (motive := fun _ => Option (Hint × q0d)) none (fun k v _ _ l r => Bool.rec (motive := fun _ => Option (Hint × q0d)) (Bool.rec (motive := fun _ => Option (Hint × q0d)) r l (Nat.ble n k)) (some v) (Nat.beq n k)) t
def NT.keys : NT → List Nat
  | .leaf => []
  | .node k _ l r => l.keys ++ k :: r.keys
theorem NT.qm5 (k : Nat) (v : Hint × q0d) (l r : NT) (n : Nat) : (NT.node k v l r).find n = if n = k then some v else if n ≤ k then l.find n else r.find n := by
  have e : (NT.node k v l r).find n = Bool.rec (motive := fun _ => Option (Hint × q0d)) (Bool.rec (motive := fun _ => Option (Hint × q0d)) (r.find n) (l.find n) (Nat.ble n k)) (some v) (Nat.beq n k) := rfl
  rw [e]
  cases h : Nat.beq n k with
  | true => rw [if_pos (Nat.eq_of_beq_eq_true h)]
  | false =>
    rw [if_neg (fun q => by rw [q, Nat.beq_refl] at h; cases h)]
    cases g : Nat.ble n k with
    | true => rw [if_pos (Nat.le_of_ble_eq_true g)]
    | false => rw [if_neg (fun q => by rw [Nat.ble_eq_true_of_le q] at g; cases g)]
theorem NT.qfw : ∀ (t : NT) (n : Nat), (t.find n).isSome = true → n ∈ t.keys
  | .leaf, n, h => by cases h
  | .node k v l r, n, h => by
    rw [NT.qm5] at h
    simp only [NT.keys, List.mem_append, List.mem_cons]
    split at h
    · rename_i e; exact .inr (.inl e)
    · split at h
      · exact .inl (NT.qfw l n h)
      · exact .inr (.inr (NT.qfw r n h))
def Tok (N : Nat) (t : T) (a : Act) : Prop := a.tmps.size = N ∧ a.defers = [] ∧ ∀ i v, t i = some v → a.tmps.getD i undef = v
theorem Tok.agree {E : Env} {N : Nat} {t : T} {a : Act} (h : Tok N t a) : qdn E.ψ (oev E.fid t) a.eval := by
  intro x y v hx hy
  cases x with
  | tmp i =>
    simp only [conO, Option.some.injEq] at hx; subst hx
    simp only [oev] at hy
    exact h.2.2 i v hy
  | const c =>
    simp only [conO, Option.some.injEq] at hx; subst hx
    simp only [oev, Option.some.injEq] at hy; subst hy
    rfl
  | func f =>
    simp only [conO, Option.map_eq_some_iff] at hx
    obtain ⟨n, hn, rfl⟩ := hx
    simp only [oev, Option.map_eq_some_iff] at hy
    obtain ⟨g, hg, rfl⟩ := hy
    have := E.fid_ok f n hn
    rw [this] at hg
    simp only [Option.some.injEq] at hg; subst hg
    rfl
  | global g => simp [conO] at hx
theorem Tok.put {N : Nat} {t : T} {a : Act} (h : Tok N t a) {d : Option Nat} (hd : ∀ i, d = some i → i < N) (v : Value) : Tok N (tput t d v) (a.put d v) := by
  cases d with
  | none => exact h
  | some d =>
    have hlt := hd d rfl
    refine ⟨by simp [Act.put, h.1], h.2.1, ?_⟩
    intro i u hu
    simp only [tput] at hu
    simp only [Act.put]
    split at hu
    · rename_i e; subst e
      simp only [Option.some.injEq] at hu; subst hu
      have : i < a.tmps.size := by rw [h.1]; exact hlt
      simp [this]
    · rename_i e
      have := h.2.2 i u hu
      rw [← this]
      simp [Array.getElem?_setIfInBounds_ne (Ne.symm e)]
theorem tl_mem : ∀ (l : List (Nat × Value)) (i : Nat) (v : Value), tl l i = some v → (i, v) ∈ l
  | [], i, v, h => by simp [tl] at h
  | (j, u) :: l, i, v, h => by
    simp only [tl] at h
    split at h
    · rename_i e; subst e; simp only [Option.some.injEq] at h; subst h; simp
    · exact List.mem_cons_of_mem _ (tl_mem l i v h)
theorem Tok.keep {N : Nat} {t : T} {a : Act} (h : Tok N t a) (ks : List Nat) : Tok N (qhg ks t) a := by
  refine ⟨h.1, h.2.1, ?_⟩
  intro i v hv
  have := tl_mem _ _ _ hv
  simp only [List.mem_filterMap, Option.map_eq_some_iff, Prod.mk.injEq] at this
  obtain ⟨k, _, u, hu, rfl, rfl⟩ := this
  exact h.2.2 k u hu
inductive AExit where
  | normal
  | exit (id : Nat)
  | ret
def AExit.toExit : AExit → Exit
  | .normal => .normal
  | .exit id => .exit id
  | .ret => .ret
def Post (N : Nat) (h : Heap) (w : World) (Q : AExit → T → Heap → Prop) : Exit → Act → World → Prop :=
  fun e a' w' => ∃ e' t' h', e = AExit.toExit e' ∧ Tok N t' a' ∧ Sat h' w' ∧ Fr h h' w w' ∧ Q e' t' h'
def AWp (E : Env) (N : Nat) (c : Code) (Q : AExit → T → Heap → Prop) (t : T) (h : Heap) : Prop :=
  ∀ a w, Tok N t a → Sat h w → c.wp E.P (Post N h w Q) a w
def AW (E : Env) (N : Nat) (ac : ACode) (Q : AExit → T → Heap → Prop) (t : T) (h : Heap) : Prop :=
  ∀ H c, qa6 E.P E.ψ N H c = some ac → AWp E N c Q t h
theorem Post.trans {N : Nat} {h h1 : Heap} {w w1 : World} {Q : AExit → T → Heap → Prop} (f : Fr h h1 w w1) {e : Exit} {a' : Act} {w' : World} (p : Post N h1 w1 Q e a' w') : Post N h w Q e a' w' := by
  obtain ⟨e', t', h', he, ht, hs, hf, hq⟩ := p
  exact ⟨e', t', h', he, ht, hs, f.trans hf, hq⟩
section
variable {E : Env} {N : Nat} {Q : AExit → T → Heap → Prop} {t : T} {h : Heap}
theorem AWp.mono {c : Code} {Q' : AExit → T → Heap → Prop} (x : AWp E N c Q t h) (hq : ∀ e t h, Q e t h → Q' e t h) : AWp E N c Q' t h :=
  fun a w ht hs => wp_mono (x a w ht hs) fun _ _ _ ⟨e', t', h', he, ht, hs, hf, hk⟩ => ⟨e', t', h', he, ht, hs, hf, hq _ _ _ hk⟩
theorem AW.mono {c : ACode} {Q' : AExit → T → Heap → Prop} (x : AW E N c Q t h) (hq : ∀ e t h, Q e t h → Q' e t h) : AW E N c Q' t h :=
  fun H c hc => (x H c hc).mono hq
def qSeq (K : T → Heap → Prop) (Q : AExit → T → Heap → Prop) : AExit → T → Heap → Prop
  | .normal, t, h => K t h
  | e, t, h => Q e t h
def qbf (id : Nat) (Q : AExit → T → Heap → Prop) : AExit → T → Heap → Prop
  | .exit i, t, h => if i = id then Q .normal t h else Q (.exit i) t h
  | e, t, h => Q e t h
theorem aw_skip (q : Q .normal t h) : AW E N .skip Q t h := by
  intro H c hc a w ht hs
  cases c <;> simp only [qa6] at hc <;> try (cases hc; done)
  case skip => exact wp_skip ⟨.normal, t, h, rfl, ht, hs, Fr.qfx _ _, q⟩
  case label => exact wp_label ⟨.normal, t, h, rfl, ht, hs, Fr.qfx _ _, q⟩
  all_goals (repeat' (first | (cases hc; done) | (split at hc)))
  all_goals (simp only [Option.map_eq_some_iff] at hc; obtain ⟨_, _, hc⟩ := hc; cases hc)
theorem aw_exit {id : Nat} (q : Q (.exit id) t h) : AW E N (.exit id) Q t h := by
  intro H c hc a w ht hs
  cases c <;> simp only [qa6] at hc <;> try (cases hc; done)
  case exit i =>
    simp only [Option.some.injEq, ACode.exit.injEq] at hc; subst hc
    exact wp_exit ⟨.exit i, t, h, rfl, ht, hs, Fr.qfx _ _, q⟩
  all_goals (repeat' (first | (cases hc; done) | (split at hc)))
  all_goals (simp only [Option.map_eq_some_iff] at hc; obtain ⟨_, _, hc⟩ := hc; cases hc)
theorem aw_ret (q : Q .ret t h) : AW E N .ret Q t h := by
  intro H c hc a w ht hs
  cases c <;> simp only [qa6] at hc <;> try (cases hc; done)
  case ret => exact wp_ret ⟨.ret, t, h, rfl, ht, hs, Fr.qfx _ _, q⟩
  all_goals (repeat' (first | (cases hc; done) | (split at hc)))
  all_goals (simp only [Option.map_eq_some_iff] at hc; obtain ⟨_, _, hc⟩ := hc; cases hc)
theorem aw_seq {x y : ACode} (p : AW E N x (qSeq (AW E N y Q) Q) t h) : AW E N (.seq x y) Q t h := by
  intro H c hc a w ht hs
  cases c <;> simp only [qa6] at hc <;> try (cases hc; done)
  case seq c1 c2 =>
    split at hc
    · rename_i x' y' h1 h2
      simp only [Option.some.injEq, ACode.seq.injEq] at hc
      obtain ⟨rfl, rfl⟩ := hc
      refine wp_seq (wp_mono (p H c1 h1 a w ht hs) ?_)
      rintro e a' w' ⟨e', t', h', rfl, ht', hs', hf, hq⟩
      cases e' with
      | normal => exact wp_mono (hq H c2 h2 a' w' ht' hs') fun _ _ _ hp => Post.trans hf hp
      | exit i => exact ⟨.exit i, t', h', rfl, ht', hs', hf, hq⟩
      | ret => exact ⟨.ret, t', h', rfl, ht', hs', hf, hq⟩
    · cases hc
  all_goals (repeat' (first | (cases hc; done) | (split at hc)))
  all_goals (simp only [Option.map_eq_some_iff] at hc; obtain ⟨_, _, hc⟩ := hc; cases hc)
theorem aw_block {id : Nat} {x : ACode} (p : AW E N x (qbf id Q) t h) : AW E N (.block id x) Q t h := by
  intro H c hc a w ht hs
  cases c <;> simp only [qa6] at hc <;> try (cases hc; done)
  case block i c1 =>
    simp only [Option.map_eq_some_iff] at hc
    obtain ⟨x', h1, hc⟩ := hc
    simp only [ACode.block.injEq] at hc
    obtain ⟨rfl, rfl⟩ := hc
    refine wp_block (wp_mono (p H c1 h1 a w ht hs) ?_)
    rintro e a' w' ⟨e', t', h', rfl, ht', hs', hf, hq⟩
    cases e' with
    | normal => exact ⟨.normal, t', h', rfl, ht', hs', hf, hq⟩
    | exit j =>
      simp only [qbf] at hq
      simp only [AExit.toExit, Exit.inBlock]
      split at hq
      · rename_i hj; rw [if_pos hj]; exact ⟨.normal, t', h', rfl, ht', hs', hf, hq⟩
      · rename_i hj; rw [if_neg hj]; exact ⟨.exit j, t', h', rfl, ht', hs', hf, hq⟩
    | ret => exact ⟨.ret, t', h', rfl, ht', hs', hf, hq⟩
  all_goals (repeat' (first | (cases hc; done) | (split at hc)))
  all_goals (simp only [Option.map_eq_some_iff] at hc; obtain ⟨_, _, hc⟩ := hc; cases hc)
theorem aw_scope {x : ACode} (p : AW E N x Q t h) : AW E N (.scope x) Q t h := by
  intro H c hc a w ht hs
  cases c <;> simp only [qa6] at hc <;> try (cases hc; done)
  case scope c1 =>
    simp only [Option.map_eq_some_iff] at hc
    obtain ⟨x', h1, hc⟩ := hc
    simp only [ACode.scope.injEq] at hc
    subst hc
    refine wp_scope_straight (wp_mono (p H c1 h1 a w ht hs) ?_)
    rintro e a' w' ⟨e', t', h', rfl, ht', hs', hf, hq⟩
    cases e' with
    | normal => exact ⟨.normal, t', h', rfl, ht', hs', hf, hq⟩
    | exit j => exact ⟨.exit j, t', h', rfl, ht', hs', hf, hq⟩
    | ret => exact ⟨.ret, t', h', rfl, ht', hs', hf, hq⟩
  all_goals (repeat' (first | (cases hc; done) | (split at hc)))
  all_goals (simp only [Option.map_eq_some_iff] at hc; obtain ⟨_, _, hc⟩ := hc; cases hc)
theorem aw_cond {c0 : Opd} {x y : ACode} {b : Bool} (hb : oev E.fid t c0 = some (.bool b)) (p : b = true → AW E N x Q t h) (q : b = false → AW E N y Q t h) : AW E N (.cond c0 x y) Q t h := by
  intro H c hc a w ht hs
  cases c <;> simp only [qa6] at hc <;> try (cases hc; done)
  case cond c1 ca cb =>
    split at hc
    · rename_i c' x' y' h0 h1 h2
      simp only [Option.some.injEq, ACode.cond.injEq] at hc
      obtain ⟨rfl, rfl, rfl⟩ := hc
      exact wp_cond_split (ht.agree _ _ _ h0 hb) (fun e => p e H ca h1 a w ht hs) (fun e => q e H cb h2 a w ht hs)
    · cases hc
  all_goals (repeat' (first | (cases hc; done) | (split at hc)))
  all_goals (simp only [Option.map_eq_some_iff] at hc; obtain ⟨_, _, hc⟩ := hc; cases hc)
theorem wp_loopN {P : Program} {c : Code} {Q : Exit → Act → World → Prop} {a : Act} {w : World} (J : Nat → Act → World → Prop) (n0 : Nat) (h₀ : J n0 a w)
    (round : ∀ n a w, J n a w → c.wp P (Exit.then (fun a' w' => ∃ m, m < n ∧ J m a' w') Q) a w) : (Code.loop c).wp P Q a w := by
  intro b k cs
  have key : ∀ n a w, J n a w →
      ∃ e a' w', Q e a' w' ∧ Arrives P (lone (b.at a (.code c :: .inLoop c :: k)) cs w) b k cs e a' w' := by
    intro n
    induction n using Nat.strongRecOn with
    | _ n ih =>
      intro a w hI
      obtain ⟨e, a₁, w₁, hq, harr⟩ := round n a w hI b (.inLoop c :: k) cs
      cases e with
      | normal =>
        obtain ⟨m, hlt, hI₁⟩ := hq
        obtain ⟨e₂, a₂, w₂, hq₂, harr₂⟩ := ih m hlt a₁ w₁ hI₁
        exact ⟨e₂, a₂, w₂, hq₂, .of_steps (Steps.trans harr (.one step_inLoop)) harr₂⟩
      | exit id => exact ⟨_, a₁, w₁, hq, .pass (x := .inLoop c) rfl (fun _ _ => .inl (by simp)) harr⟩
      | goto l => exact ⟨_, a₁, w₁, hq, .pass (x := .inLoop c) rfl (fun _ _ => .inl (by simp)) harr⟩
      | ret => exact ⟨_, a₁, w₁, hq, .pass (x := .inLoop c) rfl (fun _ _ => .inl (by simp)) harr⟩
      | panic ch => exact ⟨_, a₁, w₁, hq, .pass (x := .inLoop c) rfl (fun _ _ => .inl (by simp)) harr⟩
      | outgrown => exact ⟨_, a₁, w₁, hq, .pass (x := .inLoop c) rfl (fun _ _ => .inl (by simp)) harr⟩
  obtain ⟨e, a', w', hq, harr⟩ := key n0 a w h₀
  exact ⟨e, a', w', hq, .of_steps (.one step_loop) harr⟩
theorem aw_loop {x : ACode} (I : Nat → T → Heap → Prop) (n : Nat) (h0 : I n t h) (round : ∀ n t h, I n t h → AW E N x (qSeq (fun t h => ∃ m, m < n ∧ I m t h) Q) t h) : AW E N (.loop x) Q t h := by
  intro H c hc a w ht hs
  cases c <;> simp only [qa6] at hc <;> try (cases hc; done)
  case loop c1 =>
    simp only [Option.map_eq_some_iff] at hc
    obtain ⟨x', h1, hc⟩ := hc
    simp only [ACode.loop.injEq] at hc
    subst hc
    let J : Nat → Act → World → Prop := fun n a' w' => ∃ t' h', Tok N t' a' ∧ Sat h' w' ∧ Fr h h' w w' ∧ I n t' h'
    refine wp_loopN J n ⟨t, h, ht, hs, Fr.qfx _ _, h0⟩ ?_
    intro n1 a1 w1 hI
    obtain ⟨t1, hp1, ht1, hs1, hf1, hi1⟩ := hI
    refine wp_mono (round _ t1 hp1 hi1 H c1 h1 a1 w1 ht1 hs1) ?_
    rintro e a' w' ⟨e', t', h', rfl, ht', hs', hf, hq⟩
    cases e' with
    | normal =>
      obtain ⟨m, hm, hIm⟩ := hq
      exact ⟨m, hm, t', h', ht', hs', hf1.trans hf, hIm⟩
    | exit j => exact ⟨.exit j, t', h', rfl, ht', hs', hf1.trans hf, hq⟩
    | ret => exact ⟨.ret, t', h', rfl, ht', hs', hf1.trans hf, hq⟩
  all_goals (repeat' (first | (cases hc; done) | (split at hc)))
  all_goals (simp only [Option.map_eq_some_iff] at hc; obtain ⟨_, _, hc⟩ := hc; cases hc)
def q70 (E : Env) : List AOper → (T → Heap → Prop) → T → Heap → Prop
  | [], K, t, h => K t h
  | o :: os, K, t, h =>
    match o.guard with
    | none => step E (oev E.fid t) h o.op fun v h' => q70 E os K (tput t o.dst v) h'
    | some (g, want) =>
      match t g with
      | some (.bool b) =>
        if b = want then step E (oev E.fid t) h o.op fun v h' => q70 E os K (tput t o.dst v) h'
        else q70 E os K (tput t o.dst undef) h
      | some (.tuple _) => q70 E os K (tput t o.dst undef) h
      | _ => False
theorem qa5 {P : Program} {ψ : FuncId → Option Nat} {N : Nat} {ops : Array Oper} {i : Nat} {ao : AOper} (hc : q5j P ψ N ops i = some ao) :
    ∃ o, ops[i]? = some o ∧ ao.dst = o.dst ∧ (∀ d, o.dst = some d → d < N) ∧ (ao.op = .bad ∨ q8b P ψ o.op = some ao.op) ∧
      ((o.guard = none ∧ ao.guard = none) ∨ (∃ j w g, o.guard = some (j, w) ∧ ao.guard = some (g, w) ∧ (ops[j]?).bind (·.dst) = some g)) := by
  unfold q5j at hc
  split at hc
  · cases hc
  · rename_i o ho
    split at hc
    · cases hc
    · rename_i g hg
      split at hc
      · rename_i hd
        simp only [Option.some.injEq] at hc
        subst hc
        refine ⟨o, ho, rfl, ?_, ?_, ?_⟩
        · intro d hd'
          rw [hd'] at hd
          simpa [dstOk] using hd
        · cases hco : q8b P ψ o.op with
          | none => exact .inl rfl
          | some x => exact .inr rfl
        · cases hgs : o.guard with
          | none =>
            rw [hgs] at hg
            simp only [qir, Option.some.injEq] at hg; subst hg
            exact .inl ⟨rfl, rfl⟩
          | some jw =>
            obtain ⟨j, w⟩ := jw
            rw [hgs] at hg
            simp only [qir, Option.map_eq_some_iff] at hg
            obtain ⟨tt, htt, rfl⟩ := hg
            exact .inr ⟨j, w, tt, rfl, rfl, htt⟩
      · cases hc
theorem qas {t : T} {a : Act} (ht : Tok N t a) {ops : Array Oper} {j g : Nat} (hj : (ops[j]?).bind (·.dst) = some g) {b : Bool} (hb : t g = some (.bool b)) : yielded ops a.tmps j = some b := by
  have := ht.2.2 g _ hb
  unfold yielded
  rw [hj]
  simp only [Option.bind_some]
  cases e : a.tmps[g]? with
  | none => simp [Array.getD_eq_getD_getElem?, e, undef] at this
  | some v => simp [Array.getD_eq_getD_getElem?, e] at this; rw [this]
theorem qbp {t : T} {a : Act} (ht : Tok N t a) {ops : Array Oper} {j g : Nat} (hj : (ops[j]?).bind (·.dst) = some g) {x : Array Value} (hb : t g = some (.tuple x)) : yielded ops a.tmps j = none := by
  have := ht.2.2 g _ hb
  unfold yielded
  rw [hj]
  simp only [Option.bind_some]
  cases e : a.tmps[g]? with
  | none => rfl
  | some v => simp [Array.getD_eq_getD_getElem?, e] at this; rw [this]
theorem oper_wp {ops : Array Oper} {i : Nat} {ao : AOper} (hc : q5j E.P E.ψ N ops i = some ao) {a : Act} {w : World} (ht : Tok N t a) (hs : Sat h w) {K : Value → Heap → Prop}
    (hK : match ao.guard with
      | none => step E (oev E.fid t) h ao.op K
      | some (g, want) => match t g with
        | some (.bool b) => if b = want then step E (oev E.fid t) h ao.op K else K undef h
        | some (.tuple _) => K undef h
        | _ => False) {next : Act → World → Prop} {Q' : Exit → Act → World → Prop}
    (hn : ∀ v h' w' a', Tok N (tput t ao.dst v) a' → Sat h' w' → Fr h h' w w' → K v h' → next a' w') : wpOp E.P ops Q' i next a w := by
  obtain ⟨o, ho, hd, hdN, hop, hg⟩ := qa5 hc
  unfold wpOp
  rw [ho]
  simp only
  have hput : ∀ v, Tok N (tput t ao.dst v) (a.put o.dst v) := fun v => by rw [hd]; exact ht.put hdN v
  have hstep : step E (oev E.fid t) h ao.op K → o.wp E.P a w next Q' := by
    intro hK
    rcases hop with hbad | hco
    · rw [hbad] at hK; exact hK.elim
    · exact qcv hs ht.agree hco hK fun v h' w' hs' hf hk => hn v h' w' _ (hput v) hs' hf hk
  rcases hg with ⟨g1, g2⟩ | ⟨j, want, g, g1, g2, g3⟩
  · rw [g2] at hK
    simp only [Region.wanted, g1, if_true]
    exact .inl (hstep hK)
  · rw [g2] at hK
    simp only at hK
    split at hK
    · rename_i b hb
      have hy := qas ht g3 hb
      simp only [Region.wanted, g1, hy]
      split at hK
      · rename_i hbw
        subst hbw
        rw [if_pos (by simp)]
        exact .inl (hstep hK)
      · rename_i hbw
        rw [if_neg (by simpa using hbw)]
        exact hn undef h w _ (hput undef) hs (Fr.qfx _ _) hK
    · rename_i x hb
      have hy := qbp ht g3 hb
      simp only [Region.wanted, g1, hy]
      rw [if_neg (by simp)]
      exact hn undef h w _ (hput undef) hs (Fr.qfx _ _) hK
    · exact hK.elim
theorem qdt {ops : Array Oper} : ∀ (is : List Nat) (os : List AOper) (K : T → Heap → Prop) (t : T) (h : Heap) (a : Act) (w : World), qao E.P E.ψ N ops is = some os → q70 E os K t h → Tok N t a → Sat h w →
    ∀ {Q' : Exit → Act → World → Prop}, (∀ t' h' a' w', Tok N t' a' → Sat h' w' → Fr h h' w w' → K t' h' → Q' .normal a' w') → wpOps E.P ops Q' is a w
  | [], os, K, t, h, a, w, hc, hr, ht, hs, Q', hq => by
    simp only [qao, Option.some.injEq] at hc; subst hc
    exact hq t h a w ht hs (Fr.qfx _ _) hr
  | i :: is, os, K, t, h, a, w, hc, hr, ht, hs, Q', hq => by
    simp only [qao] at hc
    split at hc
    · rename_i ao as h1 h2
      simp only [Option.some.injEq] at hc; subst hc
      rw [wpOps_cons]
      refine oper_wp (K := fun v h' => q70 E as K (tput t ao.dst v) h') h1 ht hs ?_ ?_
      · simp only [q70] at hr
        exact hr
      · intro v h' w' a' ht' hs' hf hk
        exact qdt is as K _ h' a' w' h2 hk ht' hs' fun t2 h2 a2 w2 ht2 hs2 hf2 hk2 => hq t2 h2 a2 w2 ht2 hs2 (hf.trans hf2) hk2
    · cases hc
theorem aw_ops {os : List AOper} {keep : List Nat} (p : q70 E os (fun t h => Q .normal (qhg keep t) h) t h) : AW E N (.ops os keep) Q t h := by
  intro H c hc a w ht hs
  cases c <;> simp only [qa6] at hc <;> try (cases hc; done)
  case region id ops draw =>
    split at hc
    · cases hc
    · rename_i x keep' order hfind
      split at hc
      · split at hc
        · split at hc
          · split at hc
            · cases hc
            · cases hc
          · cases hc
        · cases hc
      · rename_i hdraw
        simp only [Option.map_eq_some_iff] at hc
        obtain ⟨os', hos, hc⟩ := hc
        simp only [ACode.ops.injEq] at hc
        obtain ⟨rfl, rfl⟩ := hc
        have hd : draw = false := by simpa using hdraw
        subst hd
        refine wp_region (qdt (E := E) (N := N) _ _ _ t h a w hos p ht hs ?_)
        intro t' h' a' w' ht' hs' hf hk
        exact ⟨.normal, _, h', rfl, ht'.keep _, hs', hf, hk⟩
  all_goals (repeat' (first | (cases hc; done) | (split at hc)))
  all_goals (simp only [Option.map_eq_some_iff] at hc; obtain ⟨_, _, hc⟩ := hc; cases hc)
def retL : List ARes → T → Heap → Option (List Value)
  | [], _, _ => some []
  | .tmp i :: r, t, h =>
    match t i, retL r t h with
    | some v, some vs => some (v :: vs)
    | _, _ => none
  | .cell i k :: r, t, h =>
    match t i, retL r t h with
    | some (.pointer (some p)), some vs => (z6q h p k).map (· :: vs)
    | _, _ => none
def retV : List Value → Value
  | [v] => v
  | vs => .tuple vs.toArray
def qRet (rs : List ARes) (Q : Value → Heap → Prop) : AExit → T → Heap → Prop
  | .exit _, _, _ => False
  | _, t, h => match retL rs t h with | some vs => Q (retV vs) h | none => False
def z6z : Nat → List Value → List (Nat × Value)
  | _, [] => []
  | i, v :: vs => (i, v) :: z6z (i + 1) vs
theorem tok_args (args : List Value) (n : Nat) (hn : args.length ≤ n) : Tok n (tl (z6z 0 args)) { tmps := args.toArray ++ Array.replicate (n - args.toArray.size) undef, defers := [] } := by
  refine ⟨by simp; omega, rfl, ?_⟩
  have key : ∀ (l : List Value) (k i : Nat) (v : Value), tl (z6z k l) i = some v → k ≤ i ∧ l[i - k]? = some v := by
    intro l
    induction l with
    | nil => intro k i v h; simp [z6z, tl] at h
    | cons x l ih =>
      intro k i v h
      simp only [z6z, tl] at h
      split at h
      · rename_i e; subst e; simp only [Option.some.injEq] at h; subst h; simp
      · obtain ⟨h1, h2⟩ := ih (k + 1) i v h
        refine ⟨by omega, ?_⟩
        rw [show i - k = (i - (k + 1)) + 1 from by omega]
        simpa using h2
  intro i v hv
  obtain ⟨_, h2⟩ := key args 0 i v hv
  simp only [Nat.sub_zero] at h2
  have hlt : i < args.length := by
    rcases Nat.lt_or_ge i args.length with g | g
    · exact g
    · rw [List.getElem?_eq_none g] at h2; cases h2
  simp [Array.getD_eq_getD_getElem?, Array.getElem?_append, hlt]
  rw [List.getElem?_eq_getElem hlt] at h2
  simpa using h2
def resM (tmps : Array Value) : ResultVar → Sem Value
  | .tmp t => pure (tmps.getD t undef)
  | .cell ad t => do loadVar t (← asAddr (tmps.getD ad undef))
theorem qex {P : Program} {fn : Func} {rs : List ARes} {t : T} {a : Act} {w : World} {vs : List Value} (ht : Tok N t a) (hs : Sat h w) (hr : qi8 P fn.results.toList = some rs) (hv : retL rs t h = some vs) : (results fn a.tmps).run P w = .ok (retV vs) w := by
  have key : ∀ (l : List ResultVar) (rs : List ARes) (vs : List Value), qi8 P l = some rs → retL rs t h = some vs →
      (l.mapM (resM a.tmps)).run P w = .ok vs w := by
    intro l
    induction l with
    | nil => intro rs vs h1 h2; simp only [qi8, Option.some.injEq] at h1; subst h1; simp only [retL, Option.some.injEq] at h2; subst h2; simp
    | cons x l ih =>
      intro rs vs h1 h2
      cases x with
      | tmp i =>
        simp only [qi8, Option.map_eq_some_iff] at h1
        obtain ⟨rs', hrs, rfl⟩ := h1
        simp only [retL] at h2
        split at h2
        · rename_i v vs' hv hvs
          simp only [Option.some.injEq] at h2; subst h2
          have := ht.2.2 i v hv
          simp only [List.mapM_cons, Sem.run_bind, Sem.run_pure, Result.andThen_ok, resM, this, ih _ _ hrs hvs]
        · cases h2
      | cell i ty =>
        simp only [qi8] at h1
        split at h1
        · rename_i k rs' hk hrs
          simp only [Option.some.injEq] at h1; subst h1
          simp only [retL] at h2
          split at h2
          · rename_i p vs' hv hvs
            simp only [Option.map_eq_some_iff] at h2
            obtain ⟨v, hrv, rfl⟩ := h2
            have := ht.2.2 i _ hv
            simp only [List.mapM_cons, Sem.run_bind, Sem.run_pure, Result.andThen_ok, resM, this, asAddr, qds hs hk hrv, ih _ _ hrs hvs]
          · cases h2
        · cases h1
  have h1 := key _ _ _ hr hv
  have h2 : (fn.results.mapM (resM a.tmps)).run P w = .ok vs.toArray w := by
    rw [← Array.toArray_toList (xs := fn.results), List.mapM_toArray]
    simp only [Sem.run_map, h1, Result.andThen_ok]
  have h3 : results fn a.tmps = (do
      let vs ← fn.results.mapM (resM a.tmps)
      pure (if h : vs.size = 1 then vs[0] else .tuple vs)) := by
    unfold results
    congr 1
  rw [h3]
  simp only [Sem.run_bind]
  rw [h2]
  simp only [Result.andThen_ok, Sem.run_pure]
  congr 1
  cases vs with
  | nil => rfl
  | cons v vs => cases vs <;> rfl
end
theorem qk6 {tab : Nat → Option (Hint × q0d)} {E : EnvT tab} {n : Nat} {args : List Value} {h : Heap} {Q : Value → Heap → Prop} {hf : Hint × q0d} (htab : tab n = some hf) (hargs : args.length ≤ hf.2.nt)
    (p : AW E.toEnv hf.2.nt hf.2.body (qRet hf.2.results Q) (tl (z6z 0 args)) h) : ACallN E.toEnv n args h Q := by
  intro f hfid w hs
  obtain ⟨fn, hf', hP, ht, hcf⟩ := E.tab_ok n f hfid
  rw [htab] at ht
  simp only [Option.some.injEq] at ht
  subst ht
  unfold compF at hcf
  split at hcf
  · cases hcf
  · rename_i c hb
    split at hcf
    · rename_i b rs hc hrs
      simp only [Option.some.injEq] at hcf
      refine calls_of_wp hP hb ?_
      have hnt : hf.2.nt = fn.ntmps := by rw [← hcf]
      have hbody : hf.2.body = b := by rw [← hcf]
      have hres : hf.2.results = rs := by rw [← hcf]
      rw [hnt] at hargs p
      rw [hbody, hres] at p
      refine wp_mono (p hf.1 c hc _ w (tok_args args fn.ntmps hargs) hs) ?_
      rintro e a' w' ⟨e', t', h', rfl, ht', hs', hf2, hq⟩
      cases e' with
      | exit j => exact hq.elim
      | normal =>
        simp only [qRet] at hq
        split at hq
        · rename_i vs hvs
          exact ⟨ht'.2.1, _, qex ht' hs' hrs hvs, _, h', rfl, hs', hf2, hq⟩
        · exact hq.elim
      | ret =>
        simp only [qRet] at hq
        split at hq
        · rename_i vs hvs
          exact ⟨ht'.2.1, _, qex ht' hs' hrs hvs, _, h', rfl, hs', hf2, hq⟩
        · exact hq.elim
    · cases hcf
theorem q0h {fid : Nat → Option FuncId} {t t' : T} {x : Opd} (h : ∀ i ∈ x.tmps, t i = t' i) : oev fid t x = oev fid t' x := by
  cases x with
  | t i => exact h i (by simp [Opd.tmps])
  | c v => rfl
  | f n => rfl
theorem q8h {fid : Nat → Option FuncId} {t t' : T} : ∀ {xs : List Opd}, (∀ i ∈ qf0 xs, t i = t' i) → allV (oev fid t) xs = allV (oev fid t') xs
  | [], _ => rfl
  | x :: xs, h => by
    have h1 : oev fid t x = oev fid t' x := q0h fun i hi => h i (by simp [qf0]; exact .inl hi)
    have h2 : allV (oev fid t) xs = allV (oev fid t') xs := q8h fun i hi => h i (by simp only [qf0, List.flatMap_cons, List.mem_append]; exact .inr hi)
    simp only [allV, h1, h2]
theorem qdl {fid : Nat → Option FuncId} {t t' : T} : ∀ {xs : List (Nat × Nat × Opd)}, (∀ i ∈ qf0 (xs.map (·.2.2)), t i = t' i) → allP (oev fid t) xs = allP (oev fid t') xs
  | [], _ => rfl
  | (a, b, x) :: xs, h => by
    have h1 : oev fid t x = oev fid t' x := q0h fun i hi => h i (by simp [qf0]; exact .inl hi)
    have h2 : allP (oev fid t) xs = allP (oev fid t') xs := qdl fun i hi => h i (by simp only [qf0, List.map_cons, List.flatMap_cons, List.mem_append]; exact .inr hi)
    simp only [allP, h1, h2]
theorem q71 {fid : Nat → Option FuncId} {t t' : T} {x : Option Opd} (h : ∀ i ∈ optT x, t i = t' i) : oOpt (oev fid t) x = oOpt (oev fid t') x := by
  cases x with
  | none => rfl
  | some x => simp only [oOpt, q0h (fid := fid) (x := x) h]
section
variable {E : Env} {t t' : T}
theorem q14 {h : Heap} {op : AOp} (hl : ∀ i ∈ op.looks, t i = t' i) : q00 E.fid (oev E.fid t) h op = q00 E.fid (oev E.fid t') h op := by
  cases op <;> simp only [AOp.looks, List.mem_append] at hl <;> simp only [q00]
  case fn n a b => rw [q8h (xs := a) fun i hi => hl i (.inl hi), q8h (xs := b) fun i hi => hl i (.inr hi)]
  case build z ps => rw [qdl hl]
  case prim p xs => rw [q8h hl]
  case pick a b c => rw [q0h (x := a) fun i hi => hl i (.inl (.inl hi)), q0h (x := b) fun i hi => hl i (.inl (.inr hi)), q0h (x := c) fun i hi => hl i (.inr hi)]
  case slStr x a b => rw [q0h (x := x) fun i hi => hl i (.inl (.inl hi)), q71 (x := a) fun i hi => hl i (.inl (.inr hi)), q71 (x := b) fun i hi => hl i (.inr hi)]
  case slSl s x a b c => rw [q0h (x := x) fun i hi => hl i (.inl (.inl (.inl hi))), q71 (x := a) fun i hi => hl i (.inl (.inl (.inr hi))), q71 (x := b) fun i hi => hl i (.inl (.inr hi)), q71 (x := c) fun i hi => hl i (.inr hi)]
  case slArr n s x a b c => rw [q0h (x := x) fun i hi => hl i (.inl (.inl (.inl hi))), q71 (x := a) fun i hi => hl i (.inl (.inl (.inr hi))), q71 (x := b) fun i hi => hl i (.inl (.inr hi)), q71 (x := c) fun i hi => hl i (.inr hi)]
  all_goals first
    | done
    | rfl
    | (rw [q0h hl]; done)
    | (rw [q0h fun i hi => hl i (.inl hi), q0h fun i hi => hl i (.inr hi)])
theorem qid {op : AOp} (hl : ∀ i ∈ op.looks, t i = t' i) : z6m (oev E.fid t) op = z6m (oev E.fid t') op := by
  cases op <;> simp only [AOp.looks, List.mem_append] at hl <;> simp only [z6m]
  case box x => rw [q0h hl]
  case bslice n s z ps => rw [qdl hl]
  case mslice b z x y => rw [q0h (x := x) fun i hi => hl i (.inl hi), q0h (x := y) fun i hi => hl i (.inr hi)]
def q7o (c : Nat) (ρ : Opd → Option Value) : AOp → Option (Blk × (Nat → Value))
  | .bytesOf x => match ρ x with | some (.string s) => some (.own 0 (s.data.toList.map fun b => .int .u8 b.toNat) (s.size + c), fun b => .slice (some ⟨b, 0, none⟩) s.size (s.size + c)) | _ => none
  | op => z6m ρ op
theorem qaq {c : Nat} {op : AOp} (hl : ∀ i ∈ op.looks, t i = t' i) : q7o c (oev E.fid t) op = q7o c (oev E.fid t') op := by
  have h := qid (E := E) (op := op) hl
  cases op <;> simp only [AOp.looks, List.mem_append] at hl <;> simp only [q7o] <;> try exact h
  case bytesOf x => rw [q0h hl]
theorem qih {h : Heap} {K : Value → Heap → Prop} {op : AOp} (hl : ∀ i ∈ op.looks, t i = t' i) : q13 E (oev E.fid t) h K op = q13 E (oev E.fid t') h K op := by
  cases op <;> simp only [AOp.looks, List.mem_append] at hl <;> simp only [q13]
  case call n xs => rw [q8h hl]
  case callv f xs => rw [q0h (x := f) fun i hi => hl i (.inl hi), q8h (xs := xs) fun i hi => hl i (.inr hi)]
  case mupd kt a b c => rw [q0h (x := a) fun i hi => hl i (.inl (.inl hi)), q0h (x := b) fun i hi => hl i (.inl (.inr hi)), q0h (x := c) fun i hi => hl i (.inr hi)]
  case bytesOf x => rw [q0h hl]
  case mark x => rw [q0h hl]
  case rangeM x => rw [q0h hl]
  case nextM x => rw [q0h hl]
  case entryM x => rw [q0h hl]
  all_goals first
    | done
    | (rw [q0h fun i hi => hl i (.inl hi), q0h fun i hi => hl i (.inr hi)])
theorem qhj {ρ : Opd → Option Value} {h : Heap} {K : Value → Heap → Prop} {op : AOp} (hw : op.isW = true) : step E ρ h op K = q13 E ρ h K op := by
  cases op <;> simp [AOp.isW] at hw <;> rfl
theorem qe6 {size bytes : Nat} {h : Heap} {base : Option Addr} {n c m : Nat} {news : List Value} {K K' : Value → Heap → Prop} (hk : ∀ v h', K v h' → K' v h') (p : q6z size bytes h base n c m news K) : q6z size bytes h base n c m news K' := by
  unfold q6z at *
  split
  · rename_i hfit
    rw [if_pos hfit] at p
    split
    · exact hk _ _ p
    · simp only at p
      split
      · rename_i h' hst; rw [hst] at p; exact ⟨p.1, hk _ _ p.2⟩
      · rename_i hst; rw [hst] at p; exact p
  · rename_i hfit
    rw [if_neg hfit] at p
    refine ⟨p.1, p.2.1, ?_⟩
    have p3 := p.2.2
    split
    · rename_i old ho
      rw [ho] at p3
      exact fun b c' h1 h2 => hk _ _ (p3 b c' h1 h2)
    · rename_i ho; rw [ho] at p3; exact p3
theorem qg7 {ρ : Opd → Option Value} {h : Heap} {K K' : Value → Heap → Prop} {op : AOp} (hk : ∀ v h', K v h' → K' v h') (p : q13 E ρ h K op) : q13 E ρ h K' op := by
  unfold q13 at *
  split
  · split
    · rename_i p0 v h1 h2
      simp only [h1, h2] at p
      refine ⟨p.1, p.2.1, ?_⟩
      have p3 := p.2.2
      split
      · rename_i h' hst; rw [hst] at p3; exact hk _ _ p3
      · rename_i hst; rw [hst] at p3; exact p3
    · simp_all
  · split
    · rename_i vs hvs; simp only [hvs] at p; exact p.mono hk
    · rename_i hvs; simp only [hvs] at p
  · split
    · rename_i g first cap vs h1 h2
      simp only [h1, h2] at p
      exact ⟨p.1, p.2.mono hk⟩
    · simp_all
  · split
    · rename_i base n c xv h1 h2
      simp only [h1, h2] at p
      split
      · rename_i m news hr; simp only [hr] at p; exact qe6 hk p
      · rename_i hr; simp only [hr] at p
    · simp_all
  · split
    · rename_i base n c k m h1 h2
      simp only [h1, h2] at p
      exact ⟨p.1, p.2.1, p.2.2.1, qe6 hk p.2.2.2⟩
    · simp_all
  · split
    · rename_i base n c b m cs h1 h2
      simp only [h1, h2] at p
      split
      · rename_i l hl
        simp only [hl] at p
        refine ⟨p.1, ?_⟩
        have p2 := p.2
        cases base with
        | none => exact hk _ _ p2
        | some a =>
          simp only at p2 ⊢
          split
          · rename_i h' hst; rw [hst] at p2; exact hk _ _ p2
          · rename_i hst; rw [hst] at p2; exact p2
      · rename_i hl; simp only [hl] at p
    · rename_i base n c m cs h1 h2
      simp only [h1, h2] at p
      exact ⟨p.1, hk _ _ p.2⟩
    · rename_i base n c s h1 h2
      simp only [h1, h2] at p
      cases base with
      | none => exact hk _ _ p
      | some a =>
        refine ⟨p.1, ?_⟩
        have p2 := p.2
        split
        · rename_i h' hst; rw [hst] at p2; exact hk _ _ p2
        · rename_i hst; rw [hst] at p2; exact p2
    · simp_all
  · split
    · rename_i r kv vv h1 h2 h3
      simp only [h1, h2, h3] at p
      split
      · rename_i es c hr
        simp only [hr] at p
        split
        · rename_i u i v h4 h5; simp only [h4, h5] at p; exact hk _ _ p
        · rename_i u h4 h5; simp only [h4, h5] at p; exact hk _ _ p
        · simp_all
      · simp_all
    · simp_all
  · split
    · rename_i r kv h1 h2
      simp only [h1, h2] at p
      split
      · rename_i es c hr
        simp only [hr] at p
        split
        · rename_i u i v h4 h5; simp only [h4, h5] at p; exact hk _ _ p
        · rename_i u h4 h5; simp only [h4, h5] at p; exact hk _ _ p
        · simp_all
      · simp_all
    · simp_all
  · split
    · rename_i s h1
      simp only [h1] at p
      exact fun b c' h2 h3 => hk _ _ (p b c' h2 h3)
    · simp_all
  · split
    · rename_i a n c h1
      simp only [h1] at p
      split
      · rename_i st vs sz hb; simp only [hb] at p; exact hk _ _ p
      · simp_all
    · simp_all
  · split
    · rename_i h1
      simp only [h1] at p
      exact fun b hb => hk _ _ (p b hb)
    · rename_i m h1
      simp only [h1] at p
      split
      · rename_i es c hm; simp only [hm] at p; exact fun b hb => hk _ _ (p b hb)
      · simp_all
    · simp_all
  · split
    · rename_i r h1
      simp only [h1] at p
      split
      · rename_i a b c hr; simp only [hr] at p; exact hk _ _ p
      · rename_i m since seen c0 hr
        simp only [hr] at p
        split
        · rename_i es clock hm
          simp only [hm] at p
          exact ⟨p.1, p.2.1, fun q => hk _ _ (p.2.2.1 q), fun e he => hk _ _ (p.2.2.2 e he)⟩
        · rename_i hm; simp only [hm] at p
      · simp_all
    · simp_all
  · split
    · rename_i r h1
      simp only [h1] at p
      split
      · rename_i m since seen c0 hr
        simp only [hr] at p
        split
        · rename_i es clock hm
          simp only [hm] at p
          split
          · rename_i stamp hst
            simp only [hst] at p
            split
            · rename_i en hen
              simp only [hen] at p
              exact ⟨p.1, hk _ _ p.2⟩
            · rename_i hen; simp only [hen] at p
          · rename_i hst; simp only [hst] at p
        · rename_i hm; simp only [hm] at p
      · simp_all
    · simp_all
  · simp_all
end
def qgq (o : DOper) (t : T) (h hb : Heap) (hist : List Heap) (R : T → Heap → Heap → List Heap → Prop) : Prop :=
  R (tput t o.dst undef) h hb (if o.op.isW = true then hb :: hist else hist)
theorem Heap.q0e (h : Heap) : h.le h := fun _ _ x => x
theorem Heap.q07 {a b c : Heap} (x : a.le b) (y : b.le c) : a.le c := fun i v h => y i v (x i v h)
theorem Heap.q0v {h h' : Heap} (x : h.le h') {b : Nat} (hb : h b = none) (y : Blk) : h.le (h'.set b y) := by
  intro i v hv
  unfold Heap.set
  split
  · rename_i e; subst e; rw [hb] at hv; cases hv
  · exact x i v hv
theorem Heap.q1g {h h' : Heap} (x : h.le h') {b : Nat} (hb : h' b = none) : h b = none := by
  cases e : h b with
  | none => rfl
  | some y => rw [x b y e] at hb; cases hb
def ql9 (h : Heap) (x : Value) : Option Value :=
  match x with
  | .slice (some a) n c => (match h a.block with | some (.own _ _ _) => some (.slice (some a) n c) | _ => none)
  | _ => none
def qil (ρ : Opd → Option Value) (h : Heap) : AOp → Option Value
  | .mark x => match ρ x with | some v => ql9 h v | none => none
  | _ => none
theorem qd8 {ρ : Opd → Option Value} {h : Heap} {op : AOp} {v : Value} (e : qil ρ h op = some v) : ∃ x a n c st vs sz, op = .mark x ∧ ρ x = some (.slice (some a) n c) ∧ v = .slice (some a) n c ∧ h a.block = some (.own st vs sz) := by
  cases op <;> simp only [qil] at e <;> try (cases e; done)
  rename_i x
  split at e
  · rename_i u hu
    unfold ql9 at e
    split at e
    · rename_i a n c
      split at e
      · rename_i st vs sz hb
        simp only [Option.some.injEq] at e
        exact ⟨x, a, n, c, st, vs, sz, rfl, hu, e.symm, hb⟩
      · cases e
    · cases e
  · cases e
theorem qbt {E : Env} {t t' : T} {h : Heap} {op : AOp} (hl : ∀ i ∈ op.looks, t i = t' i) : qil (oev E.fid t) h op = qil (oev E.fid t') h op := by
  cases op <;> simp only [AOp.looks, List.mem_append] at hl <;> simp only [qil]
  case mark x => rw [q0h hl]
def goD (E : Env) (B : Nat) (o : DOper) (t : T) (h hb : Heap) (hist : List Heap) (R : T → Heap → Heap → List Heap → Prop) : Prop :=
  if o.op.isW = true then step E (oev E.fid t) h o.op fun v h' => R (tput t o.dst v) h' h' (hb :: hist)
  else if o.op.isA = true then
    ∀ c, match q7o c (oev E.fid t) o.op with
    | some (blk, mk) => ∀ b, h b = none → B ≤ b → R (tput t o.dst (mk b)) (h.set b blk) hb hist
    | none => False
  else if o.op.isM = true then
    match qil (oev E.fid t) h o.op with
    | some v => R (tput t o.dst v) h hb hist
    | none => False
  else
    match q00 E.fid (oev E.fid t) hb o.op with
    | some v => (∀ g ∈ hist.take o.back, q00 E.fid (oev E.fid t) g o.op = some v) ∧ R (tput t o.dst v) h hb hist
    | none =>
      if o.op.isS = true then
        match q00 E.fid (oev E.fid t) h o.op with
        | some v => R (tput t o.dst v) h hb hist
        | none => False
      else False
def oneD (E : Env) (B : Nat) (o : DOper) (t : T) (h hb : Heap) (hist : List Heap) (R : T → Heap → Heap → List Heap → Prop) : Prop :=
  match o.guard with
  | none => goD E B o t h hb hist R
  | some (g, want) =>
    match t g with
    | some (.bool b) => if b = want then goD E B o t h hb hist R else qgq o t h hb hist R
    | some (.tuple _) => qgq o t h hb hist R
    | _ => False
def runD (E : Env) : List DOper → (T → Heap → Prop) → T → Heap → Heap → List Heap → Prop
  | [], K, t, h, _, _ => K t h
  | o :: os, K, t, h, hb, hist => oneD E 0 o t h hb hist (runD E os K)
inductive Pd where
  | op (o : DOper)
  | late (b : Nat) (blk : Blk)
def runP (E : Env) (B : Nat) : List Pd → (T → Heap → Prop) → T → Heap → Heap → List Heap → Prop
  | [], K, t, h, _, _ => K t h
  | .op o :: r, K, t, h, hb, hist => oneD E B o t h hb hist (runP E B r K)
  | .late b blk :: r, K, t, h, hb, hist => h b = none → runP E B r K t (h.set b blk) hb hist
theorem qhn {E : Env} : ∀ (os : List DOper) (K : T → Heap → Prop) (t : T) (h hb : Heap) (hist : List Heap), runD E os K t h hb hist → runP E 0 (os.map .op) K t h hb hist := by
  intro os K
  have key : ∀ os : List DOper, runD E os K = runP E 0 (os.map .op) K := by
    intro os
    induction os with
    | nil => rfl
    | cons o os ih => funext t h hb hist; simp only [runD, runP, List.map_cons, ih]
  intro t h hb hist p
  rw [key os] at p; exact p
def DOper.a (o : DOper) : AOper := ⟨o.dst, o.op, o.guard⟩
def onOf (o : DOper) (t : T) : Option Bool :=
  match o.guard with
  | none => some true
  | some (g, want) => match t g with | some (.bool b) => some (decide (b = want)) | some (.tuple _) => some false | _ => none
theorem q8j {E : Env} {B : Nat} {o : DOper} {t : T} {h hb : Heap} {hist : List Heap} {R : T → Heap → Heap → List Heap → Prop} :
    oneD E B o t h hb hist R ↔ (onOf o t = some true ∧ goD E B o t h hb hist R) ∨ (onOf o t = some false ∧ qgq o t h hb hist R) := by
  unfold oneD onOf
  split
  · simp
  · rename_i g want hg
    split
    · rename_i b hb'
      by_cases e : b = want
      · simp [e]
      · simp [e]
    · simp
    · simp
theorem q83 {x y : AOper} (h : q9e x y = true) : (∀ d, x.dst = some d → d ∉ y.looks ∧ y.dst ≠ some d) ∧ (∀ d, y.dst = some d → d ∉ x.looks) := by
  unfold q9e at h
  simp only [Bool.and_eq_true] at h
  constructor
  · intro d hd
    have := h.1
    rw [hd] at this
    simp only [Bool.and_eq_true, Bool.not_eq_true', List.contains_eq_mem, decide_eq_false_iff_not, bne_iff_ne] at this
    exact this
  · intro d hd
    have := h.2
    rw [hd] at this
    simpa using this
theorem q80 {t : T} {d : Option Nat} {v : Value} {i : Nat} (h : ∀ k, d = some k → k ≠ i) : tput t d v i = t i := by
  cases d with
  | none => rfl
  | some k => simp only [tput]; rw [if_neg (Ne.symm (h k rfl))]
theorem qkb {t : T} {d d' : Option Nat} {v v' : Value} (h : ∀ k, d = some k → d' ≠ some k) : tput (tput t d v) d' v' = tput (tput t d' v') d v := by
  cases d with
  | none => rfl
  | some k =>
    cases d' with
    | none => rfl
    | some k' =>
      have hne : k ≠ k' := fun e => h k rfl (by rw [e])
      funext i
      simp only [tput]
      by_cases e1 : i = k' <;> by_cases e2 : i = k <;> simp [e1, e2]
      · exact absurd (e2.symm.trans e1) hne
      all_goals (first | (subst e1; simp [Ne.symm hne]) | (subst e2; simp [hne]) | skip)
section
variable {E : Env}
theorem onOf_put {o : DOper} {t : T} {d : Option Nat} {v : Value} (h : ∀ k, d = some k → k ∉ o.a.looks) : onOf o (tput t d v) = onOf o t := by
  unfold onOf
  split
  · rfl
  · rename_i g want hg
    have : tput t d v g = t g := q80 fun k hk => by
      intro e; subst e
      exact h k hk (by simp [DOper.a, AOper.looks, hg])
    rw [this]
theorem look_put {o : DOper} {t : T} {d : Option Nat} {v : Value} (h : ∀ k, d = some k → k ∉ o.a.looks) : ∀ i ∈ o.op.looks, tput t d v i = t i := by
  intro i hi
  refine q80 fun k hk e => ?_
  subst e
  exact h k hk (by simp [DOper.a, AOper.looks, hi])
def q2n : List Pd → Nat
  | [] => 0
  | .op o :: r => (if o.op.isW = true then 1 else 0) + q2n r
  | .late _ _ :: r => q2n r
def q0a : List Pd → List DOper
  | [] => []
  | .op o :: r => o :: q0a r
  | .late _ _ :: r => q0a r
def q03 : List Pd → List (Nat × Blk)
  | [] => []
  | .op _ :: r => q03 r
  | .late b x :: r => (b, x) :: q03 r
theorem q9i {B B' : Nat} (hB : B ≤ B') {o : DOper} {t : T} {h hb : Heap} {hist : List Heap} {R R' : T → Heap → Heap → List Heap → Prop}
    (hk : ∀ v h' hb' hist', ((h' = h ∧ hb' = hb ∧ hist' = hist) ∨ (∃ b blk, h b = none ∧ B' ≤ b ∧ h' = h.set b blk ∧ hb' = hb ∧ hist' = hist) ∨ (hb' = h' ∧ hist' = hb :: hist ∧ o.op.isW = true) ∨ (h' = h ∧ hb' = hb ∧ hist' = hb :: hist ∧ o.op.isW = true)) → R (tput t o.dst v) h' hb' hist' → R' (tput t o.dst v) h' hb' hist')
    (p : oneD E B o t h hb hist R) : oneD E B' o t h hb hist R' := by
  rw [q8j] at p ⊢
  rcases p with ⟨h1, p⟩ | ⟨h1, p⟩
  · refine .inl ⟨h1, ?_⟩
    unfold goD at p ⊢
    by_cases hw : o.op.isW = true
    · rw [if_pos hw] at p ⊢
      rw [qhj hw] at p ⊢
      exact qg7 (fun v h' q => hk v h' h' _ (.inr (.inr (.inl ⟨rfl, rfl, hw⟩))) q) p
    · rw [if_neg hw] at p ⊢
      by_cases hA : o.op.isA = true
      · rw [if_pos hA] at p ⊢
        intro c
        replace p := p c
        split
        · rename_i blk mk ha
          rw [ha] at p
          exact fun b hb' hBb => hk _ _ _ _ (.inr (.inl ⟨b, blk, hb', hBb, rfl, rfl, rfl⟩)) (p b hb' (Nat.le_trans hB hBb))
        · rename_i ha; rw [ha] at p; exact p
      · rw [if_neg hA] at p ⊢
        by_cases hM : o.op.isM = true
        · rw [if_pos hM] at p ⊢
          split
          · rename_i v hv
            rw [hv] at p
            exact hk _ _ _ _ (.inl ⟨rfl, rfl, rfl⟩) p
          · rename_i hv; rw [hv] at p; exact p
        · rw [if_neg hM] at p ⊢
          split
          · rename_i v hv
            rw [hv] at p
            exact ⟨p.1, hk _ _ _ _ (.inl ⟨rfl, rfl, rfl⟩) p.2⟩
          · rename_i hv
            rw [hv] at p
            simp only at p
            by_cases hS : o.op.isS = true
            · rw [if_pos hS] at p ⊢
              split
              · rename_i v hv2
                rw [hv2] at p
                exact hk _ _ _ _ (.inl ⟨rfl, rfl, rfl⟩) p
              · rename_i hv2; rw [hv2] at p; exact p
            · rw [if_neg hS] at p; exact p.elim
  · refine .inr ⟨h1, ?_⟩
    unfold qgq at p ⊢
    by_cases hw : o.op.isW = true
    · rw [if_pos hw] at p ⊢
      exact hk _ _ _ _ (.inr (.inr (.inr ⟨rfl, rfl, rfl, hw⟩))) p
    · rw [if_neg hw] at p ⊢
      exact hk _ _ _ _ (.inl ⟨rfl, rfl, rfl⟩) p
theorem qcy {B B' : Nat} (hB : B ≤ B') {K : T → Heap → Prop} : ∀ (κ : List Pd) (t : T) (h hb : Heap) (hist : List Heap), runP E B κ K t h hb hist → runP E B' κ K t h hb hist
  | [], _, _, _, _, p => p
  | .op o :: r, t, h, hb, hist, p => by
    simp only [runP] at p ⊢
    exact q9i hB (fun v h' hb' hist' _ q => qcy hB r _ _ _ _ q) p
  | .late b blk :: r, t, h, hb, hist, p => by
    simp only [runP] at p ⊢
    exact fun hn => qcy hB r _ _ _ _ (p hn)
theorem qc8 {B : Nat} {o : DOper} {t : T} {h hb : Heap} {hist : List Heap} {R : T → Heap → Heap → List Heap → Prop} {d : Option Nat} {u : Value} (h1 : ∀ k, d = some k → k ∉ o.a.looks ∧ o.dst ≠ some k)
    (p : oneD E B o t h hb hist fun t' h' hb' hist' => R (tput t' d u) h' hb' hist') : oneD E B o (tput t d u) h hb hist R := by
  have hl := look_put (o := o) (t := t) (d := d) (v := u) fun k hk => (h1 k hk).1
  have hc : ∀ v, tput (tput t o.dst v) d u = tput (tput t d u) o.dst v := fun v => (qkb fun k hk => (h1 k hk).2).symm
  rw [q8j] at p ⊢
  rw [onOf_put fun k hk => (h1 k hk).1]
  rcases p with ⟨g1, p⟩ | ⟨g1, p⟩
  · refine .inl ⟨g1, ?_⟩
    unfold goD at p ⊢
    by_cases hw : o.op.isW = true
    · rw [if_pos hw] at p ⊢
      rw [qhj hw] at p ⊢
      rw [qih hl]
      exact qg7 (fun v h' q => by rw [← hc]; exact q) p
    · rw [if_neg hw] at p ⊢
      by_cases hA : o.op.isA = true
      · rw [if_pos hA] at p ⊢
        intro c
        replace p := p c
        rw [qaq hl]
        split
        · rename_i blk mk ha
          rw [ha] at p
          exact fun b hb' hBb => by rw [← hc]; exact p b hb' hBb
        · rename_i ha; rw [ha] at p; exact p
      · rw [if_neg hA] at p ⊢
        by_cases hM : o.op.isM = true
        · rw [if_pos hM] at p ⊢
          rw [qbt hl]
          split
          · rename_i v hv
            rw [hv] at p
            rw [← hc]; exact p
          · rename_i hv; rw [hv] at p; exact p
        · rw [if_neg hM] at p ⊢
          rw [q14 hl]
          split
          · rename_i v hv
            rw [hv] at p
            refine ⟨fun g hg => by rw [q14 hl]; exact p.1 g hg, ?_⟩
            rw [← hc]; exact p.2
          · rename_i hv
            rw [hv] at p
            simp only at p
            by_cases hS : o.op.isS = true
            · rw [if_pos hS] at p ⊢
              rw [q14 hl]
              split
              · rename_i v hv2
                rw [hv2] at p
                rw [← hc]; exact p
              · rename_i hv2; rw [hv2] at p; exact p
            · rw [if_neg hS] at p; exact p.elim
  · refine .inr ⟨g1, ?_⟩
    unfold qgq at p ⊢
    rw [← hc]; exact p
theorem qg6 {B : Nat} {o : DOper} (hW : o.op.isW = false) (hA : o.op.isA = false) (hM : o.op.isM = false) {post : List Pd} {K : T → Heap → Prop} {v : Value} {hb0 : Heap} (t0 : T) (hS : o.op.isS = false ∨ ∀ g, q00 E.fid (oev E.fid t0) g o.op ≠ none) : ∀ (pre : List Pd), (∀ p ∈ q0a pre, q9e p.a o.a = true) →
    ∀ (t : T) (h hb : Heap) (hist : List Heap) (k : Nat), (∀ i ∈ o.a.looks, t i = t0 i) → (hb0 = hb ∨ hb0 ∈ hist.take k) → k + q2n pre ≤ o.back → (onOf o t0 = some true → q00 E.fid (oev E.fid t0) hb0 o.op = some v) → (onOf o t0 = some false → v = undef) →
    runP E B (pre ++ .op o :: post) K t h hb hist → runP E B (pre ++ post) K (tput t o.dst v) h hb hist
  | [], _, t, h, hb, hist, k, ht, hh, hk, hon, hoff, p => by
    simp only [List.nil_append, runP] at p ⊢
    have e1 : onOf o t = onOf o t0 := by
      unfold onOf
      split
      · rfl
      · rename_i g want hg
        rw [ht g (by simp [DOper.a, AOper.looks, hg])]
    have e2 : ∀ i ∈ o.op.looks, t i = t0 i := fun i hi => ht i (by simp [DOper.a, AOper.looks, hi])
    rw [q8j] at p
    rcases p with ⟨g1, p⟩ | ⟨g1, p⟩
    · unfold goD at p
      rw [if_neg (by simp [hW]), if_neg (by simp [hA]), if_neg (by simp [hM])] at p
      split at p
      · rename_i u hu
        have h3 := hon (by rw [← e1]; exact g1)
        have huv : u = v := by
          rcases hh with hh | hh
          · subst hh
            rw [q14 e2] at hu
            rw [h3] at hu; exact (Option.some.inj hu).symm
          · have hm : hb0 ∈ hist.take o.back := by
              have : hist.take k = (hist.take o.back).take k := by rw [List.take_take]; congr 1; omega
              rw [this] at hh; exact List.mem_of_mem_take hh
            have := p.1 hb0 hm
            rw [q14 e2, h3] at this
            exact (Option.some.inj this).symm
        subst huv
        exact p.2
      · rename_i hu
        rcases hS with hS | hS
        · rw [if_neg (by simp [hS])] at p; exact p.elim
        · rw [q14 e2] at hu; exact absurd hu (hS _)
    · unfold qgq at p
      rw [if_neg (by simp [hW])] at p
      rw [hoff (by rw [← e1]; exact g1)]
      exact p
  | .late b blk :: pre, hp, t, h, hb, hist, k, ht, hh, hk, hon, hoff, p => by
    simp only [List.cons_append, runP] at p ⊢
    intro hbn
    exact qg6 hW hA hM t0 hS pre (fun q hq => hp q (by simpa [q0a] using hq)) t _ hb hist k ht hh (by simpa [q2n] using hk) hon hoff (p hbn)
  | .op q :: pre, hp, t, h, hb, hist, k, ht, hh, hk, hon, hoff, p => by
    simp only [List.cons_append, runP] at p ⊢
    have hap := q83 (hp q (by simp [q0a]))
    refine qc8 (fun k hk => ⟨hap.2 k hk, fun e => ?_⟩) ?_
    · exact (hap.1 k e).2 hk
    · refine q9i (Nat.le_refl _) ?_ p
      intro u h' hb' hist' hcase pp
      have hwc : q2n (.op q :: pre) = (if q.op.isW = true then 1 else 0) + q2n pre := rfl
      rw [hwc] at hk
      have hlook : ∀ i ∈ o.a.looks, tput t q.dst u i = t0 i := by
        intro i hi
        rw [q80 fun j hj e => ?_]
        · exact ht i hi
        · subst e; exact (hap.1 j hj).1 hi
      rcases hcase with ⟨rfl, rfl, rfl⟩ | ⟨b, blk, _, _, rfl, rfl, rfl⟩ | ⟨rfl, rfl, hw⟩ | ⟨rfl, rfl, rfl, hw⟩
      · exact qg6 hW hA hM t0 hS pre (fun q hq => hp q (by simp [q0a, hq])) _ _ _ _ k hlook hh (by omega) hon hoff pp
      · exact qg6 hW hA hM t0 hS pre (fun q hq => hp q (by simp [q0a, hq])) _ _ _ _ k hlook hh (by omega) hon hoff pp
      · rw [if_pos hw] at hk
        refine qg6 hW hA hM t0 hS pre (fun q hq => hp q (by simp [q0a, hq])) _ _ _ _ (k + 1) hlook ?_ (by omega) hon hoff pp
        right
        rcases hh with hh | hh
        · subst hh; simp
        · simp only [List.take_succ_cons, List.mem_cons]; exact .inr hh
      · rw [if_pos hw] at hk
        exact qg6 hW hA hM t0 hS pre (fun q hq => hp q (by simp [q0a, hq])) _ _ _ _ (k + 1) hlook (by
          rcases hh with hh | hh
          · exact .inl hh
          · right; simp only [List.take_succ_cons, List.mem_cons]; exact .inr hh) (by omega) hon hoff pp
theorem qkg {B : Nat} {o : DOper} (hW : o.op.isW = false) (hA : o.op.isA = true) {post : List Pd} {K : T → Heap → Prop} {b : Nat} (hBb : B ≤ b) {blk : Blk} {mk : Nat → Value} (t0 : T) (hon : onOf o t0 = some true) {c : Nat} (hv : q7o c (oev E.fid t0) o.op = some (blk, mk)) : ∀ (pre : List Pd), (∀ p ∈ q0a pre, q9e p.a o.a = true) →
    ∀ (t : T) (h hb : Heap) (hist : List Heap), (∀ i ∈ o.a.looks, t i = t0 i) →
    runP E B (pre ++ .op o :: post) K t h hb hist → runP E B (pre ++ .late b blk :: post) K (tput t o.dst (mk b)) h hb hist
  | [], _, t, h, hb, hist, ht, p => by
    simp only [List.nil_append, runP] at p ⊢
    intro hbn
    have e1 : onOf o t = onOf o t0 := by
      unfold onOf
      split
      · rfl
      · rename_i g want hg
        rw [ht g (by simp [DOper.a, AOper.looks, hg])]
    have e2 : ∀ i ∈ o.op.looks, t i = t0 i := fun i hi => ht i (by simp [DOper.a, AOper.looks, hi])
    rw [q8j] at p
    rcases p with ⟨g1, p⟩ | ⟨g1, p⟩
    · unfold goD at p
      rw [if_neg (by simp [hW]), if_pos hA] at p
      replace p := p c
      rw [qaq e2, hv] at p
      exact p b hbn hBb
    · rw [e1, hon] at g1; cases g1
  | .late b' blk' :: pre, hp, t, h, hb, hist, ht, p => by
    simp only [List.cons_append, runP] at p ⊢
    intro hbn
    exact qkg hW hA hBb t0 hon hv pre (fun q hq => hp q (by simpa [q0a] using hq)) t _ hb hist ht (p hbn)
  | .op q :: pre, hp, t, h, hb, hist, ht, p => by
    simp only [List.cons_append, runP] at p ⊢
    have hap := q83 (hp q (by simp [q0a]))
    refine qc8 (fun k hk => ⟨hap.2 k hk, fun e => ?_⟩) ?_
    · exact (hap.1 k e).2 hk
    · refine q9i (Nat.le_refl _) ?_ p
      intro u h' hb' hist' hcase pp
      have hlook : ∀ i ∈ o.a.looks, tput t q.dst u i = t0 i := by
        intro i hi
        rw [q80 fun j hj e => ?_]
        · exact ht i hi
        · subst e; exact (hap.1 j hj).1 hi
      exact qkg hW hA hBb t0 hon hv pre (fun q hq => hp q (by simp [q0a, hq])) _ _ _ _ hlook pp
theorem qkf {B : Nat} {o : DOper} (hW : o.op.isW = false) (hA : o.op.isA = false) (hM : o.op.isM = true) {post : List Pd} {K : T → Heap → Prop} {x : Opd} {v : Value} (t0 : T) (hon : onOf o t0 = some true) (hx : o.op = .mark x) (hv : oev E.fid t0 x = some v) : ∀ (pre : List Pd), (∀ p ∈ q0a pre, q9e p.a o.a = true) →
    ∀ (t : T) (h hb : Heap) (hist : List Heap), (∀ i ∈ o.a.looks, t i = t0 i) →
    runP E B (pre ++ .op o :: post) K t h hb hist → runP E B (pre ++ post) K (tput t o.dst v) h hb hist
  | [], _, t, h, hb, hist, ht, p => by
    simp only [List.nil_append, runP] at p ⊢
    have e1 : onOf o t = onOf o t0 := by
      unfold onOf
      split
      · rfl
      · rename_i g want hg
        rw [ht g (by simp [DOper.a, AOper.looks, hg])]
    have e2 : ∀ i ∈ o.op.looks, t i = t0 i := fun i hi => ht i (by simp [DOper.a, AOper.looks, hi])
    rw [q8j] at p
    rcases p with ⟨g1, p⟩ | ⟨g1, p⟩
    · unfold goD at p
      rw [if_neg (by simp [hW]), if_neg (by simp [hA]), if_pos hM, qbt e2] at p
      split at p
      · rename_i u hu
        obtain ⟨x', a, n, c, st, vs, sz, h1, h2, h3, _⟩ := qd8 hu
        rw [hx] at h1
        cases h1
        rw [hv] at h2
        cases h2
        subst h3
        exact p
      · exact p.elim
    · rw [e1, hon] at g1; cases g1
  | .late b' blk' :: pre, hp, t, h, hb, hist, ht, p => by
    simp only [List.cons_append, runP] at p ⊢
    intro hbn
    exact qkf hW hA hM t0 hon hx hv pre (fun q hq => hp q (by simpa [q0a] using hq)) t _ hb hist ht (p hbn)
  | .op q :: pre, hp, t, h, hb, hist, ht, p => by
    simp only [List.cons_append, runP] at p ⊢
    have hap := q83 (hp q (by simp [q0a]))
    refine qc8 (fun k hk => ⟨hap.2 k hk, fun e => ?_⟩) ?_
    · exact (hap.1 k e).2 hk
    · refine q9i (Nat.le_refl _) ?_ p
      intro u h' hb' hist' hcase pp
      have hlook : ∀ i ∈ o.a.looks, tput t q.dst u i = t0 i := by
        intro i hi
        rw [q80 fun j hj e => ?_]
        · exact ht i hi
        · subst e; exact (hap.1 j hj).1 hi
      exact qkf hW hA hM t0 hon hx hv pre (fun q hq => hp q (by simp [q0a, hq])) _ _ _ _ hlook pp
theorem qc3 {B : Nat} {o : DOper} (hW : o.op.isW = false) {post : List Pd} {K : T → Heap → Prop} (t0 : T) (hon : onOf o t0 = some false) : ∀ (pre : List Pd), (∀ p ∈ q0a pre, q9e p.a o.a = true) →
    ∀ (t : T) (h hb : Heap) (hist : List Heap), (∀ i ∈ o.a.looks, t i = t0 i) →
    runP E B (pre ++ .op o :: post) K t h hb hist → runP E B (pre ++ post) K (tput t o.dst undef) h hb hist
  | [], _, t, h, hb, hist, ht, p => by
    simp only [List.nil_append, runP] at p ⊢
    have e1 : onOf o t = onOf o t0 := by
      unfold onOf
      split
      · rfl
      · rename_i g want hg
        rw [ht g (by simp [DOper.a, AOper.looks, hg])]
    rw [q8j] at p
    rcases p with ⟨g1, p⟩ | ⟨g1, p⟩
    · rw [e1, hon] at g1; cases g1
    · unfold qgq at p
      rw [if_neg (by simp [hW])] at p
      exact p
  | .late b' blk' :: pre, hp, t, h, hb, hist, ht, p => by
    simp only [List.cons_append, runP] at p ⊢
    intro hbn
    exact qc3 hW t0 hon pre (fun q hq => hp q (by simpa [q0a] using hq)) t _ hb hist ht (p hbn)
  | .op q :: pre, hp, t, h, hb, hist, ht, p => by
    simp only [List.cons_append, runP] at p ⊢
    have hap := q83 (hp q (by simp [q0a]))
    refine qc8 (fun k hk => ⟨hap.2 k hk, fun e => ?_⟩) ?_
    · exact (hap.1 k e).2 hk
    · refine q9i (Nat.le_refl _) ?_ p
      intro u h' hb' hist' hcase pp
      have hlook : ∀ i ∈ o.a.looks, tput t q.dst u i = t0 i := by
        intro i hi
        rw [q80 fun j hj e => ?_]
        · exact ht i hi
        · subst e; exact (hap.1 j hj).1 hi
      exact qc3 hW t0 hon pre (fun q hq => hp q (by simp [q0a, hq])) _ _ _ _ hlook pp
structure OneBlk (f : Heap → Option Value) (b0 : Nat) (kn : Option Blk) (v : Value) : Prop where
  dep : ∀ g g', g b0 = g' b0 → f g = f g'
  val : ∀ g, g b0 = kn → f g = some v
  no : ∀ g, g b0 = none → f g = none
theorem qke {B : Nat} {o : DOper} (hW : o.op.isW = false) (hA : o.op.isA = false) (hM : o.op.isM = false) (hS : o.op.isS = true) {post : List Pd} {K : T → Heap → Prop} {v : Value} {hb0 : Heap} (t0 : T) {b0 : Nat} {blk : Blk}
    (hO : OneBlk (fun g => q00 E.fid (oev E.fid t0) g o.op) b0 (some blk) v) (hB : b0 < B) (h0 : hb0 b0 = none ∨ hb0 b0 = some blk) (hon : onOf o t0 = some true) : ∀ (pre : List Pd), (∀ p ∈ q0a pre, q9e p.a o.a = true) → (∀ x ∈ q03 pre, x.1 = b0 → x.2 = blk) →
    ∀ (t : T) (h hb : Heap) (hist : List Heap) (k : Nat), (∀ i ∈ o.a.looks, t i = t0 i) → hb.le h → (hb b0 = none → h b0 = none ∨ h b0 = some blk) → (hb0 = hb ∨ hb0 ∈ hist.take k) → k + q2n pre ≤ o.back →
    runP E B (pre ++ .op o :: post) K t h hb hist → runP E B (pre ++ post) K (tput t o.dst v) h hb hist
  | [], _, _, t, h, hb, hist, k, ht, hle, hC, hh, hk, p => by
    simp only [List.nil_append, runP] at p ⊢
    have e1 : onOf o t = onOf o t0 := by
      unfold onOf
      split
      · rfl
      · rename_i g want hg
        rw [ht g (by simp [DOper.a, AOper.looks, hg])]
    have e2 : ∀ i ∈ o.op.looks, t i = t0 i := fun i hi => ht i (by simp [DOper.a, AOper.looks, hi])
    rw [q8j] at p
    rcases p with ⟨g1, p⟩ | ⟨g1, p⟩
    · unfold goD at p
      rw [if_neg (by simp [hW]), if_neg (by simp [hA]), if_neg (by simp [hM])] at p
      split at p
      · rename_i u hu
        rw [q14 e2] at hu
        have hu0 : q00 E.fid (oev E.fid t0) hb0 o.op = some u := by
          rcases hh with hh | hh
          · rw [hh]; exact hu
          · have hm : hb0 ∈ hist.take o.back := by
              have : hist.take k = (hist.take o.back).take k := by rw [List.take_take]; congr 1; omega
              rw [this] at hh; exact List.mem_of_mem_take hh
            have := p.1 hb0 hm
            rw [q14 e2] at this
            exact this
        have huv : u = v := by
          rcases h0 with q | q
          · have := hO.no hb0 q
            rw [hu0] at this; cases this
          · have := hO.val hb0 q
            rw [hu0] at this; exact Option.some.inj this
        subst huv
        exact p.2
      · rename_i hu
        rw [if_pos hS] at p
        split at p
        · rename_i u hu2
          rw [q14 e2] at hu hu2
          have huv : u = v := by
            cases q : hb b0 with
            | none =>
              rcases hC q with r | r
              · have := hO.no h r
                rw [hu2] at this; cases this
              · have := hO.val h r
                rw [hu2] at this; exact Option.some.inj this
            | some y =>
              have := hO.dep hb h (by rw [q, hle _ _ q])
              rw [hu, hu2] at this; cases this
          subst huv
          exact p
        · exact p.elim
    · rw [e1, hon] at g1; cases g1
  | .late b' blk' :: pre, hp, hl, t, h, hb, hist, k, ht, hle, hC, hh, hk, p => by
    simp only [List.cons_append, runP] at p ⊢
    intro hbn
    refine qke hW hA hM hS t0 hO hB h0 hon pre (fun q hq => hp q (by simpa [q0a] using hq)) (fun x hx => hl x (by simp [q03, hx])) t _ hb hist k ht (Heap.q0v hle (Heap.q1g hle hbn) _) (fun q => ?_) hh (by simpa [q2n] using hk) (p hbn)
    unfold Heap.set
    by_cases e : b0 = b'
    · rw [if_pos e]
      exact .inr (congrArg some (hl (b', blk') (by simp [q03]) e.symm))
    · rw [if_neg e]; exact hC q
  | .op q :: pre, hp, hl, t, h, hb, hist, k, ht, hle, hC, hh, hk, p => by
    simp only [List.cons_append, runP] at p ⊢
    have hap := q83 (hp q (by simp [q0a]))
    refine qc8 (fun k hk => ⟨hap.2 k hk, fun e => ?_⟩) ?_
    · exact (hap.1 k e).2 hk
    · refine q9i (Nat.le_refl _) ?_ p
      intro u h' hb' hist' hcase pp
      have hwc : q2n (.op q :: pre) = (if q.op.isW = true then 1 else 0) + q2n pre := rfl
      rw [hwc] at hk
      have hlook : ∀ i ∈ o.a.looks, tput t q.dst u i = t0 i := by
        intro i hi
        rw [q80 fun j hj e => ?_]
        · exact ht i hi
        · subst e; exact (hap.1 j hj).1 hi
      have rest : ∀ k', hb'.le h' → (hb' b0 = none → h' b0 = none ∨ h' b0 = some blk) → (hb0 = hb' ∨ hb0 ∈ hist'.take k') → k' + q2n pre ≤ o.back → _ := fun k' g0 g1 g2 g3 =>
        qke hW hA hM hS t0 hO hB h0 hon pre (fun q hq => hp q (by simp [q0a, hq])) (fun x hx => hl x (by simp [q03, hx])) _ h' hb' hist' k' hlook g0 g1 g2 g3 pp
      rcases hcase with ⟨rfl, rfl, rfl⟩ | ⟨b, blk2, hbn, hBb, rfl, rfl, rfl⟩ | ⟨rfl, rfl, hw⟩ | ⟨rfl, rfl, rfl, hw⟩
      · exact rest k hle hC hh (by omega)
      · refine rest k (Heap.q0v hle (Heap.q1g hle hbn) _) (fun r => ?_) hh (by omega)
        unfold Heap.set
        rw [if_neg (by omega)]
        exact hC r
      · rw [if_pos hw] at hk
        refine rest (k + 1) (Heap.q0e _) (fun r => .inl r) ?_ (by omega)
        right
        rcases hh with hh | hh
        · subst hh; simp
        · simp only [List.take_succ_cons, List.mem_cons]; exact .inr hh
      · rw [if_pos hw] at hk
        refine rest (k + 1) hle hC ?_ (by omega)
        rcases hh with hh | hh
        · exact .inl hh
        · right; simp only [List.take_succ_cons, List.mem_cons]; exact .inr hh
end
theorem qgl {P : Program} {ops : Array Oper} {i : Nat} {next : Act → World → Prop} {a : Act} {w : World} (p : wpOp P ops (fun _ _ _ => False) i next a w) : ∃ a' w', next a' w' := by
  unfold wpOp at p
  split at p
  · exact ⟨_, _, p⟩
  · rename_i o ho
    split at p
    · rcases p with p | ⟨_, _, _, q⟩
      · unfold Oper.wp at p
        generalize (execOp a.eval o).run P w = r at p
        cases r with
        | ok n w' =>
          cases n <;> simp only [Oper.upon] at p <;> try (exact ⟨_, _, p⟩)
          case enter f args =>
            obtain ⟨e, w'', fr, hR, _⟩ := p []
            cases e with
            | returned v => exact ⟨_, _, hR⟩
            | panicked c => exact hR.elim
            | outgrown => obtain ⟨_, _, q⟩ := hR; exact q.elim
          case row row args =>
            obtain ⟨v, w'', hR, _⟩ := p default []
            exact ⟨_, _, hR⟩
        | halt x w' => cases x <;> simp only [Oper.upon] at p
      · exact q.elim
    · exact ⟨_, _, p⟩
theorem qk2 {P : Program} {ne : Bool} {t : TypeId} {x y z : Opd} : eqOp P ne t x y ≠ some (.bytesOf z) := by
  intro hc
  unfold eqOp at hc
  repeat' (first | (cases hc; done) | (split at hc))
  all_goals first
    | (simp only [Option.map_eq_some_iff] at hc; obtain ⟨_, _, hc⟩ := hc; cases hc; done)
    | (simp only [Option.some.injEq] at hc; split at hc <;> cases hc)
theorem qia {P : Program} {ψ : FuncId → Option Nat} {c : Call} {z : Opd} : qe4 P ψ c ≠ some (.bytesOf z) := by
  intro hc
  unfold qe4 at hc
  simp only at hc
  repeat' (first | (cases hc; done) | (split at hc))
  all_goals first
    | (simp only [Option.map_eq_some_iff] at hc; obtain ⟨_, _, hc⟩ := hc; cases hc; done)
    | (simp only [Option.some.injEq] at hc; split at hc <;> cases hc)
theorem qlm {P : Program} {ne : Bool} {t : TypeId} {x y z : Opd} : eqOp P ne t x y ≠ some (.mark z) := by
  intro hc
  unfold eqOp at hc
  repeat' (first | (cases hc; done) | (split at hc))
  all_goals first
    | (simp only [Option.map_eq_some_iff] at hc; obtain ⟨_, _, hc⟩ := hc; cases hc; done)
    | (simp only [Option.some.injEq] at hc; split at hc <;> cases hc)
theorem qiw {P : Program} {ψ : FuncId → Option Nat} {c : Call} {z : Opd} : qe4 P ψ c ≠ some (.mark z) := by
  intro hc
  unfold qe4 at hc
  simp only at hc
  repeat' (first | (cases hc; done) | (split at hc))
  all_goals first
    | (simp only [Option.map_eq_some_iff] at hc; obtain ⟨_, _, hc⟩ := hc; cases hc; done)
    | (simp only [Option.some.injEq] at hc; split at hc <;> cases hc)
theorem qgd {E : Env} {ρ : Opd → Option Value} {a : Act} {w : World} (ha : qdn E.ψ ρ a.eval) {o : Oper} {ao : AOp} (hc : q8b E.P E.ψ o.op = some ao) (hv : ∀ c, ∃ x, q7o c ρ ao = some x) :
    ∃ c blk mk obj w', q7o c ρ ao = some (blk, mk) ∧ (execOp a.eval o).run E.P w = .ok (.value (mk w.heap.size)) w' ∧ w'.heap = w.heap.push obj ∧ w'.os = w.os ∧ w'.tape = w.tape ∧ (w'.output = w.output ∧ w.drawn ≤ w'.drawn) ∧ q91 blk (some obj) := by
  by_cases hb : ∃ x, ao = .bytesOf x
  · obtain ⟨x', rfl⟩ := hb
    obtain ⟨y, hy⟩ := hv 0
    simp only [q7o] at hy
    split at hy
    · rename_i str hsx
      have hvc : ∀ c, q7o c ρ (.bytesOf x') = some (.own 0 (str.data.toList.map fun b => .int .u8 b.toNat) (str.size + c), fun b => .slice (some ⟨b, 0, none⟩) str.size (str.size + c)) := by
        intro c; simp only [q7o, hsx]
      unfold q8b at hc
      cases hop : o.op <;> rw [hop] at hc <;> simp only at hc
      case convert s d x =>
        split at hc
        all_goals try (simp only [Option.some.injEq, reduceCtorEq] at hc; done)
        · split at hc <;> simp only [Option.some.injEq, reduceCtorEq] at hc
        · rename_i x' e hx h1 h2
          split at hc
          · rename_i h3
            simp only [Option.some.injEq, AOp.bytesOf.injEq] at hc; subst hc
            generalize hcap : (Question.appendCap str.size 0 e).cut (w.tape w.drawn (.appendCap str.size 0 e)) = cap
            have hge : str.size ≤ cap := by rw [← hcap]; simp [Question.cut]
            let row : Array Value := str.data.map (fun b => Value.int .u8 b.toNat) ++ Array.replicate (cap - str.size) (.int .u8 0)
            have hrow : row.size = cap := by simp [row]; omega
            let w1 : World := { w with drawn := w.drawn + 1, heap := w.heap.push (.cells row e) }
            have hhx : (w1.freeze ⟨w.heap.size, cap, none⟩ 1).heap = w.heap.push (.cells row e (cap, cap + 1)) := by
              simp only [World.freeze, Nat.one_ne_zero, if_false, w1]
              apply Array.ext_getElem?
              intro k
              rw [Array.getElem?_modify]
              split
              · rename_i hk2; subst hk2; simp
              · rename_i hk2; simp [Array.getElem?_push, Ne.symm hk2]
            have hcc : str.size + (cap - str.size) = cap := by omega
            refine ⟨cap - str.size, _, _, .cells row e (cap, cap + 1), w1.freeze ⟨w.heap.size, cap, none⟩ 1, hvc _, ?_, hhx, rfl, rfl, ⟨rfl, Nat.le_succ _⟩, ?_⟩
            · rw [hcc]
              unfold execOp
              rw [hop]
              simp only [ha x x' _ hx hsx, convert, Sem.run_bind, run_underlying h1, run_underlying h2, run_underlying h3, Result.andThen_ok, Conv.stringToBytes, run_choose, Question.forced, Bool.false_eq_true, if_false, hcap]
              simp only [newRow, Sem.run_bind, run_newObj, Result.andThen_ok, Sem.run_pure, markStringish, run_shape]
              have hsh : w1.shape? w.heap.size = some (e, cap) := by
                simp [World.shape?, w1, hrow]
              change ((Sem.run E.P (match w1.shape? w.heap.size with | some (fst, n) => freeze { block := w.heap.size, off := n } 1 | x => pure ()) w1).andThen _).andThen _ = _
              rw [hsh]
              rfl
            · rw [hcc]
              refine ⟨row, e, (cap, cap + 1), rfl, hrow, by simpa using hge, ?_, .inr (Nat.le_refl _)⟩
              intro i v hv
              rw [Nat.zero_add]
              simp only [List.getElem?_map, Option.map_eq_some_iff] at hv
              obtain ⟨b, hb, rfl⟩ := hv
              have hlt : i < str.data.size := by
                rcases Nat.lt_or_ge i str.data.size with g | g
                · exact g
                · rw [List.getElem?_eq_none (by simpa using g)] at hb; cases hb
              simp only [row, Array.getElem?_append, Array.size_map, hlt, if_true, Array.getElem?_map]
              have : str.data[i]? = some b := by simpa using hb
              simp [this]
          · cases hc
        · split at hc
          · split at hc <;> simp only [Option.some.injEq, reduceCtorEq] at hc
          · cases hc
      all_goals
        exfalso
        repeat' (first | (cases hc; done) | (split at hc))
        all_goals first
          | contradiction
          | exact absurd hc qk2
          | exact absurd hc qia
          | (simp only [Option.some.injEq, reduceCtorEq] at hc; done)
          | (simp only [Option.map_eq_some_iff, reduceCtorEq, and_false, exists_false] at hc; done)
          | (simp only [Option.map_eq_some_iff] at hc; obtain ⟨_, _, hc⟩ := hc; cases hc; done)
          | (simp only [Option.map_eq_some_iff] at hc; obtain ⟨_, _, hc⟩ := hc; split at hc <;> cases hc)
          | skip
    · cases hy
  · have e : ∀ c, q7o c ρ ao = z6m ρ ao := by
      intro c
      cases ao <;> try rfl
      exact absurd ⟨_, rfl⟩ hb
    obtain ⟨⟨blk, mk⟩, h1⟩ := hv 0
    rw [e] at h1
    obtain ⟨obj, h2, h3⟩ := qft (P := E.P) (w := w) ha hc h1
    exact ⟨0, blk, mk, obj, _, by rw [e]; exact h1, h2, rfl, rfl, rfl, ⟨rfl, Nat.le_refl _⟩, h3⟩
theorem sat_le {h h' : Heap} {w : World} (x : h.le h') (s : Sat h' w) : Sat h w := fun b y hb => s b y (x b y hb)
theorem qlg {h h' : Heap} {w w' : World} (f : Fr h h' w w') {b : Nat} (x : ¬ h'.free b ∨ w'.heap.size ≤ b) : ¬ h.free b ∨ w.heap.size ≤ b := by
  rcases x with x | x
  · by_cases hf : h.free b
    · rcases hf with hf | ⟨o, hf⟩
      · right
        refine f.fresh b hf fun e => x (.inl e)
      · exact absurd (.inr ⟨o, f.ro b o hf⟩) x
    · exact .inl hf
  · exact .inr (Nat.le_trans f.size x)
theorem qk5 {ρ : Opd → Option Value} {op : AOp} {c : Nat} {blk : Blk} {mk : Nat → Value} (h : q7o c ρ op = some (blk, mk)) (o : Obj) : blk ≠ .ro o := by
  intro e
  subst e
  have key : ∀ op, z6m ρ op ≠ some (.ro o, mk) := by
    intro op h
    cases op <;> simp only [z6m] at h <;> try (cases h; done)
    all_goals (repeat' (first | (cases h; done) | (split at h)))
  by_cases hb : ∃ x, op = .bytesOf x
  · obtain ⟨x, rfl⟩ := hb
    simp only [q7o] at h
    split at h <;> cases h
  · refine key op ?_
    rw [← h]
    cases op <;> first | rfl | exact absurd ⟨_, rfl⟩ hb
theorem qjy {P : Program} (w : World) (b : Addr) : ∃ w', (markStringish b).run P w = .ok () w' ∧ w'.os = w.os ∧ w'.tape = w.tape ∧ (w'.output = w.output ∧ w.drawn ≤ w'.drawn) ∧ w'.heap.size = w.heap.size ∧ (∀ k, k ≠ b.block → w'.heap[k]? = w.heap[k]?) ∧ (∀ blk : Blk, (∀ o, blk ≠ .ro o) → q91 blk w.heap[b.block]? → q91 blk w'.heap[b.block]?) := by
  cases ho : w.heap[b.block]? with
  | none =>
    have hs : w.shape? b.block = none := by simp [World.shape?, ho]
    exact ⟨w, by simp [markStringish, hs], rfl, rfl, ⟨rfl, Nat.le_refl _⟩, rfl, fun _ _ => rfl, fun _ _ x => by rw [ho]; exact x⟩
  | some ob =>
    cases hn : Obj.qco ob with
    | true =>
      have hs : w.shape? b.block = none := by
        cases ob <;> first | (cases hn; done) | simp [World.shape?, ho]
      exact ⟨w, by simp [markStringish, hs], rfl, rfl, ⟨rfl, Nat.le_refl _⟩, rfl, fun _ _ => rfl, fun _ _ x => by rw [ho]; exact x⟩
    | false =>
      cases ob <;> try (cases hn; done)
      rename_i carr e fr
      have hshape : w.shape? b.block = some (e, carr.size) := by simp [World.shape?, ho]
      have hheap : ∀ k, (w.freeze ⟨b.block, carr.size, none⟩ 1).heap[k]? = if k = b.block then some (.cells carr e (if fr.1 == fr.2 then (carr.size, carr.size + 1) else (min fr.1 carr.size, max fr.2 (carr.size + 1)))) else w.heap[k]? := by
        intro k
        simp only [World.freeze, Nat.one_ne_zero, if_false, Array.getElem?_modify]
        by_cases hk : k = b.block
        · subst hk; simp [ho]
        · rw [if_neg (Ne.symm hk), if_neg hk]
      refine ⟨w.freeze ⟨b.block, carr.size, none⟩ 1, by simp [markStringish, hshape], by simp [World.freeze], by simp [World.freeze], by simp [World.freeze], by simp [World.freeze], fun k hk => by rw [hheap, if_neg hk], ?_⟩
      intro blk hnr hx
      rw [hheap, if_pos rfl]
      cases blk with
      | ro o => exact absurd rfl (hnr o)
      | obj o =>
        obtain ⟨h1, h2⟩ := hx
        cases h1
        cases h2
      | own st vs sz =>
        obtain ⟨carr', e', fr', h1, hsz, hle, hc, hf⟩ := hx
        simp only [Option.some.injEq, Obj.cells.injEq] at h1
        obtain ⟨rfl, rfl, rfl⟩ := h1
        refine ⟨carr, e, _, rfl, hsz, hle, hc, ?_⟩
        split
        · right; simp; omega
        · rename_i hne
          have hne' : fr.1 ≠ fr.2 := by simpa using hne
          rcases hf with h1 | h1
          · exact absurd h1 hne'
          · right; simp; omega
theorem mark_run {E : Env} {ρ : Opd → Option Value} {a : Act} {w : World} (ha : qdn E.ψ ρ a.eval) {o : Oper} {x : Opd} {ad : Addr} {n c : Nat} (hc : q8b E.P E.ψ o.op = some (.mark x)) (hv : ρ x = some (.slice (some ad) n c)) :
    ∃ w', (execOp a.eval o).run E.P w = .ok (.value (.slice (some ad) n c)) w' ∧ w'.os = w.os ∧ w'.tape = w.tape ∧ (w'.output = w.output ∧ w.drawn ≤ w'.drawn) ∧ w'.heap.size = w.heap.size ∧ (∀ k, k ≠ ad.block → w'.heap[k]? = w.heap[k]?) ∧ (∀ blk : Blk, (∀ o, blk ≠ .ro o) → q91 blk w.heap[ad.block]? → q91 blk w'.heap[ad.block]?) := by
  obtain ⟨w', hr, rest⟩ := qjy (P := E.P) w ad
  refine ⟨w', ?_, rest⟩
  unfold q8b at hc
  cases hop : o.op <;> rw [hop] at hc <;> simp only at hc
  case convert s d x0 =>
    split at hc
    all_goals try (simp only [Option.some.injEq, reduceCtorEq] at hc; done)
    · split at hc <;> simp only [Option.some.injEq, reduceCtorEq] at hc
    · split at hc
      · simp only [Option.some.injEq, reduceCtorEq] at hc
      · cases hc
    · rename_i x' e1 e hx h1 h2
      split at hc
      · rename_i h3
        split at hc
        · rename_i hsd
          simp only [Option.some.injEq, AOp.mark.injEq] at hc; subst hc
          have hsd' : s = d := by simpa using hsd
          subst hsd'
          rw [h1] at h2
          simp only [Option.some.injEq, TypeDesc.slice.injEq] at h2
          subst h2
          unfold execOp
          rw [hop]
          simp only [ha x0 x' _ hx hv, convert, Sem.run_bind, run_underlying h1, run_underlying h3, Result.andThen_ok, beq_self_eq_true]
          simp [hr]
        · cases hc
      · cases hc
  all_goals
    exfalso
    repeat' (first | (cases hc; done) | (split at hc))
    all_goals first
      | contradiction
      | exact absurd hc qlm
      | exact absurd hc qiw
      | (simp only [Option.some.injEq, reduceCtorEq] at hc; done)
      | (simp only [Option.map_eq_some_iff, reduceCtorEq, and_false, exists_false] at hc; done)
      | (simp only [Option.map_eq_some_iff] at hc; obtain ⟨_, _, hc⟩ := hc; cases hc; done)
      | (simp only [Option.map_eq_some_iff] at hc; obtain ⟨_, _, hc⟩ := hc; split at hc <;> cases hc)
section
variable {E : Env} {N : Nat}
def Lates (l : List (Nat × Blk)) (h : Heap) (w : World) (B : Nat) : Prop :=
  (∀ x ∈ l, h x.1 = none ∧ q91 x.2 w.heap[x.1]? ∧ B ≤ x.1 ∧ x.1 < w.heap.size) ∧ (l.map (·.1)).Nodup
theorem Lates.fr {l : List (Nat × Blk)} {h h' : Heap} {w w' : World} {B : Nat} (p : Lates l h w B) (f : Fr h h' w w') : Lates l h' w' B := by
  refine ⟨fun x hx => ?_, p.2⟩
  obtain ⟨h1, h2, h3, h4⟩ := p.1 x hx
  refine ⟨?_, by rw [f.keep x.1 h4 (.inl h1)]; exact h2, h3, Nat.lt_of_lt_of_le h4 f.size⟩
  cases e : h' x.1 with
  | none => rfl
  | some y => exact absurd (f.fresh x.1 h1 (by simp [e])) (by omega)
theorem qc6 {h : Heap} {w : World} (s : Sat h w) {b : Nat} {blk : Blk} (hx : q91 blk w.heap[b]?) : Sat (h.set b blk) w :=
  qev s hx fun _ _ _ => rfl
theorem Lates.tail {x : Nat × Blk} {l : List (Nat × Blk)} {h : Heap} {w : World} {B : Nat} (p : Lates (x :: l) h w B) : Lates l (h.set x.1 x.2) w B := by
  have hn := p.2
  simp only [List.map_cons, List.nodup_cons] at hn
  refine ⟨fun y hy => ?_, hn.2⟩
  obtain ⟨h1, h2⟩ := p.1 y (by simp [hy])
  refine ⟨?_, h2⟩
  unfold Heap.set
  rw [if_neg]
  · exact h1
  · intro e
    exact hn.1 (List.mem_map.2 ⟨y, hy, e⟩)
theorem qel {B : Nat} {o : DOper} {ops : Array Oper} {t : T} {h hb : Heap} {hist : List Heap} {R : T → Heap → Heap → List Heap → Prop} {a : Act} {w : World} (hc : q5j E.P E.ψ N ops o.ix = some o.a)
    (p : oneD E B o t h hb hist R) (ht : Tok N t a) (hs : Sat h w) (hsb : Sat hb w) (hle : hb.le h) (hBw : B ≤ w.heap.size) {next : Act → World → Prop} {Q' : Exit → Act → World → Prop}
    (hn : ∀ u h' hb' hist' w' a', Tok N (tput t o.dst u) a' → Sat h' w' → Sat hb' w' → Fr h h' w w' →
      ((h' = h ∧ hb' = hb ∧ hist' = hist) ∨ (∃ b blk, h b = none ∧ w.heap.size ≤ b ∧ h' = h.set b blk ∧ hb' = hb ∧ hist' = hist) ∨ (hb' = h' ∧ hist' = hb :: hist ∧ o.op.isW = true) ∨ (h' = h ∧ hb' = hb ∧ hist' = hb :: hist ∧ o.op.isW = true)) →
      hb'.le h' → R (tput t o.dst u) h' hb' hist' → next a' w') : wpOp E.P ops Q' o.ix next a w := by
  obtain ⟨o0, ho, hd, hdN, hop, hg⟩ := qa5 hc
  unfold wpOp
  rw [ho]
  simp only
  have hd' : o.dst = o0.dst := hd
  have hput : ∀ v, Tok N (tput t o.dst v) (a.put o0.dst v) := fun v => by rw [hd']; exact ht.put hdN v
  have hop' : o.op = .bad ∨ q8b E.P E.ψ o0.op = some o.op := hop
  have go : goD E B o t h hb hist R → o0.wp E.P a w next Q' := by
    intro p
    unfold goD at p
    by_cases hw : o.op.isW = true
    · rw [if_pos hw] at p
      rcases hop' with hbad | hco
      · rw [hbad] at hw; cases hw
      · exact qcv hs ht.agree hco p fun v h' w' hs' hf hk => hn v h' h' _ w' _ (hput v) hs' hs' hf (.inr (.inr (.inl ⟨rfl, rfl, hw⟩))) (Heap.q0e _) hk
    · rw [if_neg hw] at p
      by_cases hA : o.op.isA = true
      · rw [if_pos hA] at p
        rcases hop' with hbad | hco
        · rw [hbad] at hA; cases hA
        · have hex : ∀ c, ∃ x, q7o c (oev E.fid t) o.op = some x := by
            intro c
            have := p c
            split at this
            · rename_i blk mk hv; exact ⟨_, hv⟩
            · exact this.elim
          obtain ⟨c, blk, mk, obj, w', hv, hr, h1, h2, h3, h4, hbs⟩ := qgd (w := w) ht.agree hco hex
          replace p := p c
          rw [hv] at p
          refine q3i hr (hn _ _ _ _ _ _ (hput _) (Sat.q9g (w := { w with heap := w.heap.push obj }) h1 (qau hs hbs)) ?_ ((qdd hs blk obj).trans (Fr.qdm h1 h2 h3 h4)) (.inr (.inl ⟨_, _, hs.none_of_ge (Nat.le_refl _), Nat.le_refl _, rfl, rfl, rfl⟩)) (Heap.q0v hle (hsb.none_of_ge (Nat.le_refl _)) _) (p _ (hs.none_of_ge (Nat.le_refl _)) hBw))
          intro c y hy
          have hlt := hsb.lt hy
          rw [h1, Array.getElem?_push, if_neg (by omega)]
          exact hsb c y hy
      · rw [if_neg hA] at p
        by_cases hM : o.op.isM = true
        · rw [if_pos hM] at p
          split at p
          · rename_i v hv
            obtain ⟨x, ad, n, c, st, vs, sz, h1, h2, rfl, hown⟩ := qd8 hv
            rcases hop' with hbad | hco
            · rw [hbad] at h1; cases h1
            · refine qcv hs ht.agree hco (K := fun v' h' => v' = .slice (some ad) n c ∧ h' = h) ?_ ?_
              · rw [h1]
                simp only [step, q13, h2, hown, and_self]
              · rintro v' h' w' hs' hf ⟨rfl, rfl⟩
                exact hn _ h' hb hist w' _ (hput _) hs' (sat_le hle hs') hf (.inl ⟨rfl, rfl, rfl⟩) hle p
          · exact p.elim
        · rw [if_neg hM] at p
          split at p
          · rename_i v hv
            rcases hop' with hbad | hco
            · rw [hbad] at hv; simp [q00] at hv
            · exact q3i (q8i (P := E.P) hsb ht.agree E.fid_ok (fun f => rfl) hco hv) (hn v h hb hist w _ (hput v) hs hsb (Fr.qfx _ _) (.inl ⟨rfl, rfl, rfl⟩) hle p.2)
          · by_cases hS : o.op.isS = true
            · rw [if_pos hS] at p
              split at p
              · rename_i v hv
                rcases hop' with hbad | hco
                · rw [hbad] at hv; simp [q00] at hv
                · exact q3i (q8i (P := E.P) hs ht.agree E.fid_ok (fun f => rfl) hco hv) (hn v h hb hist w _ (hput v) hs hsb (Fr.qfx _ _) (.inl ⟨rfl, rfl, rfl⟩) hle p)
              · exact p.elim
            · rw [if_neg hS] at p; exact p.elim
  rw [q8j] at p
  rcases hg with ⟨g1, g2⟩ | ⟨j, want, g, g1, g2, g3⟩
  · have hg2 : o.guard = none := g2
    simp only [Region.wanted, g1, if_true]
    rcases p with ⟨q1, p⟩ | ⟨q1, p⟩
    · exact .inl (go p)
    · simp [onOf, hg2] at q1
  · have hg2 : o.guard = some (g, want) := g2
    rcases p with ⟨q1, p⟩ | ⟨q1, p⟩
    · simp only [onOf, hg2] at q1
      split at q1
      · rename_i b hb'
        simp only [Option.some.injEq, decide_eq_true_eq] at q1
        have hy := qas ht g3 hb'
        simp only [Region.wanted, g1, hy]
        subst q1
        rw [if_pos (by simp)]
        exact .inl (go p)
      · cases q1
      · cases q1
    · simp only [onOf, hg2] at q1
      split at q1
      · rename_i b hb'
        simp only [Option.some.injEq, decide_eq_false_iff_not] at q1
        have hy := qas ht g3 hb'
        simp only [Region.wanted, g1, hy]
        rw [if_neg (by simpa using q1)]
        unfold qgq at p
        by_cases hw : o.op.isW = true
        · rw [if_pos hw] at p
          exact hn undef h hb _ w _ (hput undef) hs hsb (Fr.qfx _ _) (.inr (.inr (.inr ⟨rfl, rfl, rfl, hw⟩))) hle p
        · rw [if_neg hw] at p
          exact hn undef h hb _ w _ (hput undef) hs hsb (Fr.qfx _ _) (.inl ⟨rfl, rfl, rfl⟩) hle p
      · rename_i x hb'
        have hy := qbp ht g3 hb'
        simp only [Region.wanted, g1, hy]
        rw [if_neg (by simp)]
        unfold qgq at p
        by_cases hw : o.op.isW = true
        · rw [if_pos hw] at p
          exact hn undef h hb _ w _ (hput undef) hs hsb (Fr.qfx _ _) (.inr (.inr (.inr ⟨rfl, rfl, rfl, hw⟩))) hle p
        · rw [if_neg hw] at p
          exact hn undef h hb _ w _ (hput undef) hs hsb (Fr.qfx _ _) (.inl ⟨rfl, rfl, rfl⟩) hle p
      · cases q1
theorem facts {B0 : Nat} {o : DOper} (hW : o.op.isW = false) {ops : Array Oper} {post : List Pd} {K : T → Heap → Prop} {hb0 : Heap} (t0 : T) (hS : o.op.isS = false ∨ ∀ g, q00 E.fid (oev E.fid t0) g o.op ≠ none) : ∀ (pre : List Pd), (∀ p ∈ q0a pre, q9e p.a o.a = true) → (∀ p ∈ q0a pre, q5j E.P E.ψ N ops p.ix = some p.a) →
    ∀ (t : T) (h hb : Heap) (hist : List Heap) (k : Nat) (a : Act) (w : World) (B : Nat), (∀ i ∈ o.a.looks, t i = t0 i) → (hb0 = hb ∨ hb0 ∈ hist.take k) → k + q2n pre ≤ o.back ∨ o.op.isA = true → Tok N t a → Sat h w → Sat hb w → hb.le h → B0 ≤ w.heap.size → Lates (q03 pre) h w B →
    runP E B0 (pre ++ .op o :: post) K t h hb hist →
    onOf o t0 = some false ∨ (onOf o t0 = some true ∧ (o.op.isA = false → o.op.isM = false → ∃ v, q00 E.fid (oev E.fid t0) hb0 o.op = some v) ∧ (o.op.isA = true → ∀ c, ∃ x, q7o c (oev E.fid t0) o.op = some x))
  | [], _, _, t, h, hb, hist, k, a, w, B, ht, hh, hk, tok, hs, hsb, hle, hB0, hl, p => by
    simp only [List.nil_append, runP] at p
    have e1 : onOf o t = onOf o t0 := by
      unfold onOf
      split
      · rfl
      · rename_i g want hg
        rw [ht g (by simp [DOper.a, AOper.looks, hg])]
    have e2 : ∀ i ∈ o.op.looks, t i = t0 i := fun i hi => ht i (by simp [DOper.a, AOper.looks, hi])
    rw [q8j] at p
    rcases p with ⟨g1, p⟩ | ⟨g1, p⟩
    · refine .inr ⟨by rw [← e1]; exact g1, fun hA hM => ?_, fun hA => ?_⟩
      · unfold goD at p
        rw [if_neg (by simp [hW]), if_neg (by simp [hA]), if_neg (by simp [hM])] at p
        split at p
        · rename_i u hu
          rcases hh with hh | hh
          · subst hh
            exact ⟨u, by rw [← q14 e2]; exact hu⟩
          · have hk' : k ≤ o.back := by
              rcases hk with hk | hk
              · simp [q2n] at hk; exact hk
              · rw [hA] at hk; cases hk
            have hm : hb0 ∈ hist.take o.back := by
              have : hist.take k = (hist.take o.back).take k := by rw [List.take_take]; congr 1; omega
              rw [this] at hh; exact List.mem_of_mem_take hh
            exact ⟨u, by rw [← q14 e2]; exact p.1 hb0 hm⟩
        · rename_i hu
          rcases hS with hS | hS
          · rw [if_neg (by simp [hS])] at p; exact p.elim
          · rw [q14 e2] at hu; exact absurd hu (hS _)
      · unfold goD at p
        rw [if_neg (by simp [hW]), if_pos hA] at p
        intro c
        replace p := p c
        split at p
        · rename_i blk mk hv
          exact ⟨_, by rw [← qaq e2]; exact hv⟩
        · exact p.elim
    · exact .inl (by rw [← e1]; exact g1)
  | .late b blk :: pre, hp, hc, t, h, hb, hist, k, a, w, B, ht, hh, hk, tok, hs, hsb, hle, hB0, hl, p => by
    simp only [List.cons_append, runP] at p
    have h1 := hl.1 (b, blk) (by simp [q03])
    exact facts hW t0 hS pre (fun q hq => hp q (by simpa [q0a] using hq)) (fun q hq => hc q (by simpa [q0a] using hq)) t _ hb hist k a w B ht hh (by simpa [q2n] using hk) tok (qc6 hs h1.2.1) hsb (Heap.q0v hle (Heap.q1g hle h1.1) _) hB0 (Lates.tail hl) (p h1.1)
  | .op q :: pre, hp, hc, t, h, hb, hist, k, a, w, B, ht, hh, hk, tok, hs, hsb, hle, hB0, hl, p => by
    simp only [List.cons_append, runP] at p
    have hap := q83 (hp q (by simp [q0a]))
    have hx := qel (Q' := fun _ _ _ => False) (next := fun _ _ => onOf o t0 = some false ∨ (onOf o t0 = some true ∧ (o.op.isA = false → o.op.isM = false → ∃ v, q00 E.fid (oev E.fid t0) hb0 o.op = some v) ∧ (o.op.isA = true → ∀ c, ∃ x, q7o c (oev E.fid t0) o.op = some x)))
      (hc q (by simp [q0a])) p tok hs hsb hle hB0 (fun u h' hb' hist' w' a' tok' hs' hsb' hf hcase hle' pp => by
        have hwc : q2n (.op q :: pre) = (if q.op.isW = true then 1 else 0) + q2n pre := rfl
        rw [hwc] at hk
        have hlook : ∀ i ∈ o.a.looks, tput t q.dst u i = t0 i := by
          intro i hi
          rw [q80 fun j hj e => ?_]
          · exact ht i hi
          · subst e; exact (hap.1 j hj).1 hi
        have hl' : Lates (q03 pre) h' w' B := Lates.fr hl hf
        have rest : ∀ k', (hb0 = hb' ∨ hb0 ∈ hist'.take k') → (k' + q2n pre ≤ o.back ∨ o.op.isA = true) → _ := fun k' g1 g2 =>
          facts hW t0 hS pre (fun q hq => hp q (by simp [q0a, hq])) (fun q hq => hc q (by simp [q0a, hq])) _ h' hb' hist' k' a' w' B hlook g1 g2 tok' hs' hsb' hle' (Nat.le_trans hB0 hf.size) hl' pp
        rcases hcase with ⟨rfl, rfl, rfl⟩ | ⟨b, blk, _, _, rfl, rfl, rfl⟩ | ⟨rfl, rfl, hw⟩ | ⟨rfl, rfl, rfl, hw⟩
        · exact rest k hh (hk.imp (by omega) id)
        · exact rest k hh (hk.imp (by omega) id)
        · rw [if_pos hw] at hk
          refine rest (k + 1) ?_ (hk.imp (by omega) id)
          right
          rcases hh with hh | hh
          · subst hh; simp
          · simp only [List.take_succ_cons, List.mem_cons]; exact .inr hh
        · rw [if_pos hw] at hk
          refine rest (k + 1) ?_ (hk.imp (by omega) id)
          rcases hh with hh | hh
          · exact .inl hh
          · right; simp only [List.take_succ_cons, List.mem_cons]; exact .inr hh)
    obtain ⟨_, _, r⟩ := qgl hx
    exact r
theorem qiu {B0 : Nat} {o : DOper} (hW : o.op.isW = false) (hA : o.op.isA = false) (hM : o.op.isM = true) {ops : Array Oper} {post : List Pd} {K : T → Heap → Prop} (t0 : T) : ∀ (pre : List Pd), (∀ p ∈ q0a pre, q9e p.a o.a = true) → (∀ p ∈ q0a pre, q5j E.P E.ψ N ops p.ix = some p.a) →
    ∀ (t : T) (h hb : Heap) (hist : List Heap) (a : Act) (w : World) (B : Nat), (∀ i ∈ o.a.looks, t i = t0 i) → Tok N t a → Sat h w → Sat hb w → hb.le h → B0 ≤ w.heap.size → Lates (q03 pre) h w B →
    runP E B0 (pre ++ .op o :: post) K t h hb hist →
    onOf o t0 = some false ∨ (onOf o t0 = some true ∧ ∃ x ad n c, o.op = .mark x ∧ oev E.fid t0 x = some (.slice (some ad) n c) ∧ ((∃ y ∈ q03 pre, y.1 = ad.block) ∨ ¬ h.free ad.block ∨ w.heap.size ≤ ad.block))
  | [], _, _, t, h, hb, hist, a, w, B, ht, tok, hs, hsb, hle, hB0, hl, p => by
    simp only [List.nil_append, runP] at p
    have e1 : onOf o t = onOf o t0 := by
      unfold onOf
      split
      · rfl
      · rename_i g want hg
        rw [ht g (by simp [DOper.a, AOper.looks, hg])]
    have e2 : ∀ i ∈ o.op.looks, t i = t0 i := fun i hi => ht i (by simp [DOper.a, AOper.looks, hi])
    rw [q8j] at p
    rcases p with ⟨g1, p⟩ | ⟨g1, p⟩
    · refine .inr ⟨by rw [← e1]; exact g1, ?_⟩
      unfold goD at p
      rw [if_neg (by simp [hW]), if_neg (by simp [hA]), if_pos hM, qbt e2] at p
      split at p
      · rename_i v hv
        obtain ⟨x, ad, n, c, st, vs, sz, h1, h2, _, hown⟩ := qd8 hv
        refine ⟨x, ad, n, c, h1, h2, .inr (.inl ?_)⟩
        rintro (q | ⟨o, q⟩) <;> rw [hown] at q <;> cases q
      · exact p.elim
    · exact .inl (by rw [← e1]; exact g1)
  | .late b blk :: pre, hp, hc, t, h, hb, hist, a, w, B, ht, tok, hs, hsb, hle, hB0, hl, p => by
    simp only [List.cons_append, runP] at p
    have h1 := hl.1 (b, blk) (by simp [q03])
    rcases qiu hW hA hM t0 pre (fun q hq => hp q (by simpa [q0a] using hq)) (fun q hq => hc q (by simpa [q0a] using hq)) t _ hb hist a w B ht tok (qc6 hs h1.2.1) hsb (Heap.q0v hle (Heap.q1g hle h1.1) _) hB0 (Lates.tail hl) (p h1.1) with r | ⟨r, x, ad, n, c, hx, hv, r2⟩
    · exact .inl r
    · refine .inr ⟨r, x, ad, n, c, hx, hv, ?_⟩
      rcases r2 with ⟨y, hy, e⟩ | r2 | r2
      · exact .inl ⟨y, by simp [q03, hy], e⟩
      · by_cases e : b = ad.block
        · exact .inl ⟨(b, blk), by simp [q03], e⟩
        · refine .inr (.inl fun q => r2 ?_)
          unfold Heap.free Heap.set
          rw [if_neg (Ne.symm e)]
          exact q
      · exact .inr (.inr r2)
  | .op q :: pre, hp, hc, t, h, hb, hist, a, w, B, ht, tok, hs, hsb, hle, hB0, hl, p => by
    simp only [List.cons_append, runP] at p
    have hap := q83 (hp q (by simp [q0a]))
    have hx := qel (Q' := fun _ _ _ => False) (next := fun _ _ => onOf o t0 = some false ∨ (onOf o t0 = some true ∧ ∃ x ad n c, o.op = .mark x ∧ oev E.fid t0 x = some (.slice (some ad) n c) ∧ ((∃ y ∈ q03 pre, y.1 = ad.block) ∨ ¬ h.free ad.block ∨ w.heap.size ≤ ad.block)))
      (hc q (by simp [q0a])) p tok hs hsb hle hB0 (fun u h' hb' hist' w' a' tok' hs' hsb' hf hcase hle' pp => by
        have hlook : ∀ i ∈ o.a.looks, tput t q.dst u i = t0 i := by
          intro i hi
          rw [q80 fun j hj e => ?_]
          · exact ht i hi
          · subst e; exact (hap.1 j hj).1 hi
        have hl' : Lates (q03 pre) h' w' B := Lates.fr hl hf
        rcases qiu hW hA hM t0 pre (fun q hq => hp q (by simp [q0a, hq])) (fun q hq => hc q (by simp [q0a, hq])) _ h' hb' hist' a' w' B hlook tok' hs' hsb' hle' (Nat.le_trans hB0 hf.size) hl' pp with r | ⟨r, x, ad, n, c, hx, hv, r2⟩
        · exact .inl r
        · refine .inr ⟨r, x, ad, n, c, hx, hv, ?_⟩
          rcases r2 with r2 | r2
          · exact .inl r2
          · exact .inr (qlg hf r2))
    obtain ⟨_, _, r⟩ := qgl hx
    rcases r with r | ⟨r, x, ad, n, c, hx, hv, r2⟩
    · exact .inl r
    · exact .inr ⟨r, x, ad, n, c, hx, hv, by simpa [q03] using r2⟩
theorem qkh {fid : Nat → Option FuncId} {ρ : Opd → Option Value} {op : AOp} (hS : op.isS = true) :
    ∃ b0, (∀ g g' : Heap, g b0 = g' b0 → q00 fid ρ g op = q00 fid ρ g' op) ∧ ((∀ g, q00 fid ρ g op ≠ none) ∨ (∀ g : Heap, g b0 = none → q00 fid ρ g op = none)) := by
  cases op <;> simp only [AOp.isS, Bool.false_eq_true] at hS
  rename_i x
  have other : (∀ g, q00 fid ρ g (.strOf x) = none) → ∃ b0, (∀ g g' : Heap, g b0 = g' b0 → q00 fid ρ g (.strOf x) = q00 fid ρ g' (.strOf x)) ∧ ((∀ g, q00 fid ρ g (.strOf x) ≠ none) ∨ (∀ g : Heap, g b0 = none → q00 fid ρ g (.strOf x) = none)) :=
    fun h => ⟨0, fun g g' _ => by rw [h, h], .inr fun g _ => h g⟩
  cases hx : ρ x with
  | none => exact other fun g => by simp only [q00, hx]
  | some v =>
    cases v with
    | slice base n c =>
      cases base with
      | none => exact ⟨0, fun g g' _ => by simp only [q00, hx], .inl fun g => by simp only [q00, hx]; simp⟩
      | some a =>
        cases n with
        | zero => exact ⟨0, fun g g' _ => by simp only [q00, hx, q09], .inl fun g => by simp [q00, hx, q09, qbk]⟩
        | succ n =>
          refine ⟨a.block, fun g g' e => ?_, .inr fun g e => ?_⟩
          · simp only [q00, hx, q09, e]
          · simp only [q00, hx, q09, e]
            cases a.spot <;> rfl
    | _ => exact other fun g => by simp only [q00, hx]
theorem qhs (w : World) : ∀ n : Nat, ∃ w' : World, n < w'.heap.size ∧ w.heap.size ≤ w'.heap.size ∧ ∀ c, c < w.heap.size → w'.heap[c]? = w.heap[c]?
  | 0 => ⟨{ w with heap := w.heap.push (.cells #[] 0) }, by simp, by simp, fun c hc => by rw [Array.getElem?_push, if_neg (by omega)]⟩
  | n + 1 => by
    obtain ⟨w', h1, h2, h3⟩ := qhs w n
    refine ⟨{ w' with heap := w'.heap.push (.cells #[] 0) }, by simp; omega, by simp; omega, fun c hc => ?_⟩
    rw [← h3 c hc]
    show (w'.heap.push _)[c]? = _
    rw [Array.getElem?_push, if_neg (by omega)]
theorem qit {B0 : Nat} {o : DOper} (hW : o.op.isW = false) (hA : o.op.isA = false) (hM : o.op.isM = false) (hS : o.op.isS = true) {ops : Array Oper} {post : List Pd} {K : T → Heap → Prop} {hb0 : Heap} (t0 : T) {b0 : Nat} {kn : Option Blk}
    (hdep : ∀ g g' : Heap, g b0 = g' b0 → q00 E.fid (oev E.fid t0) g o.op = q00 E.fid (oev E.fid t0) g' o.op) (hno : ∀ g : Heap, g b0 = none → q00 E.fid (oev E.fid t0) g o.op = none) (h0 : hb0 b0 = none ∨ hb0 b0 = kn) :
    ∀ (pre : List Pd), (∀ p ∈ q0a pre, q9e p.a o.a = true) → (∀ p ∈ q0a pre, q5j E.P E.ψ N ops p.ix = some p.a) → (∀ x ∈ q03 pre, x.1 = b0 → kn = some x.2) →
    ∀ (t : T) (h hb : Heap) (hist : List Heap) (k : Nat) (a : Act) (w : World) (B : Nat), (∀ i ∈ o.a.looks, t i = t0 i) → (hb0 = hb ∨ hb0 ∈ hist.take k) → k + q2n pre ≤ o.back → Tok N t a → Sat h w → Sat hb w → hb.le h → B0 ≤ w.heap.size → b0 < w.heap.size → Lates (q03 pre) h w B → (hb b0 = none → h b0 = none ∨ h b0 = kn) →
    runP E B0 (pre ++ .op o :: post) K t h hb hist →
    onOf o t0 = some false ∨ (onOf o t0 = some true ∧ ∃ blk v, kn = some blk ∧ ∀ g : Heap, g b0 = some blk → q00 E.fid (oev E.fid t0) g o.op = some v)
  | [], _, _, _, t, h, hb, hist, k, a, w, B, ht, hh, hk, tok, hs, hsb, hle, hB0, hb0w, hl, hC, p => by
    simp only [List.nil_append, runP] at p
    have e1 : onOf o t = onOf o t0 := by
      unfold onOf
      split
      · rfl
      · rename_i g want hg
        rw [ht g (by simp [DOper.a, AOper.looks, hg])]
    have e2 : ∀ i ∈ o.op.looks, t i = t0 i := fun i hi => ht i (by simp [DOper.a, AOper.looks, hi])
    have given : ∀ (g : Heap) (u : Value), (g b0 = none ∨ g b0 = kn) → q00 E.fid (oev E.fid t0) g o.op = some u → ∃ blk v, kn = some blk ∧ ∀ g : Heap, g b0 = some blk → q00 E.fid (oev E.fid t0) g o.op = some v := by
      intro g u hg hu
      cases q : g b0 with
      | none => rw [hno g q] at hu; cases hu
      | some blk =>
        rcases hg with hg | hg
        · rw [q] at hg; cases hg
        · exact ⟨blk, u, by rw [← hg, q], fun g' hg' => by rw [hdep g' g (by rw [hg', q])]; exact hu⟩
    rw [q8j] at p
    rcases p with ⟨g1, p⟩ | ⟨g1, p⟩
    · refine .inr ⟨by rw [← e1]; exact g1, ?_⟩
      unfold goD at p
      rw [if_neg (by simp [hW]), if_neg (by simp [hA]), if_neg (by simp [hM])] at p
      split at p
      · rename_i u hu
        rw [q14 e2] at hu
        refine given hb0 u h0 ?_
        rcases hh with hh | hh
        · rw [hh]; exact hu
        · have hm : hb0 ∈ hist.take o.back := by
            have : hist.take k = (hist.take o.back).take k := by rw [List.take_take]; congr 1; simp [q2n] at hk; omega
            rw [this] at hh; exact List.mem_of_mem_take hh
          have := p.1 hb0 hm
          rw [q14 e2] at this
          exact this
      · rename_i hu
        rw [if_pos hS] at p
        split at p
        · rename_i u hu2
          rw [q14 e2] at hu hu2
          refine given h u ?_ hu2
          cases q : hb b0 with
          | none => exact hC q
          | some y =>
            have := hdep hb h (by rw [q, hle _ _ q])
            rw [hu, hu2] at this; cases this
        · exact p.elim
    · exact .inl (by rw [← e1]; exact g1)
  | .late b blk :: pre, hp, hc, hlk, t, h, hb, hist, k, a, w, B, ht, hh, hk, tok, hs, hsb, hle, hB0, hb0w, hl, hC, p => by
    simp only [List.cons_append, runP] at p
    have h1 := hl.1 (b, blk) (by simp [q03])
    refine qit hW hA hM hS t0 hdep hno h0 pre (fun q hq => hp q (by simpa [q0a] using hq)) (fun q hq => hc q (by simpa [q0a] using hq)) (fun x hx => hlk x (by simp [q03, hx])) t _ hb hist k a w B ht hh (by simpa [q2n] using hk) tok (qc6 hs h1.2.1) hsb (Heap.q0v hle (Heap.q1g hle h1.1) _) hB0 hb0w (Lates.tail hl) (fun q => ?_) (p h1.1)
    unfold Heap.set
    by_cases e : b0 = b
    · rw [if_pos e]
      exact .inr (hlk (b, blk) (by simp [q03]) e.symm).symm
    · rw [if_neg e]; exact hC q
  | .op q :: pre, hp, hc, hlk, t, h, hb, hist, k, a, w, B, ht, hh, hk, tok, hs, hsb, hle, hB0, hb0w, hl, hC, p => by
    simp only [List.cons_append, runP] at p
    have hap := q83 (hp q (by simp [q0a]))
    have hx := qel (Q' := fun _ _ _ => False) (next := fun _ _ => onOf o t0 = some false ∨ (onOf o t0 = some true ∧ ∃ blk v, kn = some blk ∧ ∀ g : Heap, g b0 = some blk → q00 E.fid (oev E.fid t0) g o.op = some v))
      (hc q (by simp [q0a])) p tok hs hsb hle hB0 (fun u h' hb' hist' w' a' tok' hs' hsb' hf hcase hle' pp => by
        have hwc : q2n (.op q :: pre) = (if q.op.isW = true then 1 else 0) + q2n pre := rfl
        rw [hwc] at hk
        have hlook : ∀ i ∈ o.a.looks, tput t q.dst u i = t0 i := by
          intro i hi
          rw [q80 fun j hj e => ?_]
          · exact ht i hi
          · subst e; exact (hap.1 j hj).1 hi
        have hl' : Lates (q03 pre) h' w' B := Lates.fr hl hf
        have rest : ∀ k', (hb0 = hb' ∨ hb0 ∈ hist'.take k') → (k' + q2n pre ≤ o.back) → (hb' b0 = none → h' b0 = none ∨ h' b0 = kn) → _ := fun k' g1 g2 g3 =>
          qit hW hA hM hS t0 hdep hno h0 pre (fun q hq => hp q (by simp [q0a, hq])) (fun q hq => hc q (by simp [q0a, hq])) (fun x hx => hlk x (by simp [q03, hx])) _ h' hb' hist' k' a' w' B hlook g1 g2 tok' hs' hsb' hle' (Nat.le_trans hB0 hf.size) (Nat.lt_of_lt_of_le hb0w hf.size) hl' g3 pp
        rcases hcase with ⟨rfl, rfl, rfl⟩ | ⟨b, blk, _, hwb, rfl, rfl, rfl⟩ | ⟨rfl, rfl, hw⟩ | ⟨rfl, rfl, rfl, hw⟩
        · exact rest k hh (by omega) hC
        · refine rest k hh (by omega) fun r => ?_
          unfold Heap.set
          rw [if_neg (by omega)]
          exact hC r
        · rw [if_pos hw] at hk
          refine rest (k + 1) ?_ (by omega) fun r => .inl r
          right
          rcases hh with hh | hh
          · subst hh; simp
          · simp only [List.take_succ_cons, List.mem_cons]; exact .inr hh
        · rw [if_pos hw] at hk
          refine rest (k + 1) ?_ (by omega) hC
          rcases hh with hh | hh
          · exact .inl hh
          · right; simp only [List.take_succ_cons, List.mem_cons]; exact .inr hh)
    obtain ⟨_, _, r⟩ := qgl hx
    exact r
end
section
variable {E : Env} {N : Nat}
theorem q0l : ∀ (a b : List Pd), q0a (a ++ b) = q0a a ++ q0a b
  | [], b => rfl
  | .op o :: a, b => by simp [q0a, q0l a b]
  | .late _ _ :: a, b => by simp [q0a, q0l a b]
theorem q08 : ∀ (a b : List Pd), q03 (a ++ b) = q03 a ++ q03 b
  | [], b => rfl
  | .op o :: a, b => by simp [q03, q08 a b]
  | .late _ _ :: a, b => by simp [q03, q08 a b]
theorem qbo : ∀ (κ : List Pd) (A B : List DOper) (o : DOper), q0a κ = A ++ o :: B → ∃ pre post, κ = pre ++ .op o :: post ∧ q0a pre = A ∧ q0a post = B
  | [], A, B, o, h => by simp [q0a] at h
  | .late b x :: κ, A, B, o, h => by
    obtain ⟨pre, post, h1, h2, h3⟩ := qbo κ A B o (by simpa [q0a] using h)
    exact ⟨.late b x :: pre, post, by simp [h1], by simpa [q0a] using h2, h3⟩
  | .op q :: κ, [], B, o, h => by
    simp only [q0a, List.nil_append, List.cons.injEq] at h
    obtain ⟨rfl, h⟩ := h
    exact ⟨[], κ, rfl, rfl, h⟩
  | .op q :: κ, x :: A, B, o, h => by
    simp only [q0a, List.cons_append, List.cons.injEq] at h
    obtain ⟨rfl, h⟩ := h
    obtain ⟨pre, post, h1, h2, h3⟩ := qbo κ A B o h
    exact ⟨.op q :: pre, post, by simp [h1], by simp [q0a, h2], h3⟩
theorem qer : ∀ (κ : List Pd), q2n κ = ((q0a κ).filter fun o => o.op.isW).length
  | [] => rfl
  | .late b x :: κ => by simp [q2n, q0a, qer κ]
  | .op o :: κ => by
    simp only [q2n, q0a, List.filter_cons, qer κ]
    cases o.op.isW <;> simp [Nat.add_comm]
theorem q7z {o : DOper} {ops : Array Oper} {t : T} {a : Act} {w : World} (hc : q5j E.P E.ψ N ops o.ix = some o.a) (ht : Tok N t a) {next : Act → World → Prop} {Q' : Exit → Act → World → Prop} {b : Bool} (hon : onOf o t = some b)
    (hgo : b = true → ∀ o0 : Oper, o.dst = o0.dst → (o.op = .bad ∨ q8b E.P E.ψ o0.op = some o.op) → (∀ v, Tok N (tput t o.dst v) (a.put o0.dst v)) → o0.wp E.P a w next Q')
    (hskip : b = false → ∀ a', Tok N (tput t o.dst undef) a' → next a' w) : wpOp E.P ops Q' o.ix next a w := by
  obtain ⟨o0, ho, hd, hdN, hop, hg⟩ := qa5 hc
  unfold wpOp
  rw [ho]
  simp only
  have hd' : o.dst = o0.dst := hd
  have hput : ∀ v, Tok N (tput t o.dst v) (a.put o0.dst v) := fun v => by rw [hd']; exact ht.put hdN v
  rcases hg with ⟨g1, g2⟩ | ⟨j, want, g, g1, g2, g3⟩
  · have hg2 : o.guard = none := g2
    simp only [Region.wanted, g1, if_true]
    simp only [onOf, hg2, Option.some.injEq] at hon
    exact .inl (hgo hon.symm o0 hd' hop hput)
  · have hg2 : o.guard = some (g, want) := g2
    simp only [onOf, hg2] at hon
    split at hon
    · rename_i b' hb'
      have hy := qas ht g3 hb'
      simp only [Region.wanted, g1, hy]
      simp only [Option.some.injEq] at hon
      by_cases e : b' = want
      · subst e
        rw [if_pos (by simp)]
        exact .inl (hgo (by simpa using hon.symm) o0 hd' hop hput)
      · rw [if_neg (by simpa using e)]
        exact hskip (by simpa [e] using hon.symm) _ (hput undef)
    · rename_i x hb'
      have hy := qbp ht g3 hb'
      simp only [Region.wanted, g1, hy]
      rw [if_neg (by simp)]
      exact hskip (by simpa using hon.symm) _ (hput undef)
    · cases hon
structure qj5 (E : Env) (N : Nat) (ops : Array Oper) (os0 : List DOper) (bit : Nat → Nat → Bool) : Prop where
  comp : ∀ o ∈ os0, q5j E.P E.ψ N ops o.ix = some o.a ∧ o.ix < ops.size
  pairs : ∀ l1 o l2, os0 = l1 ++ o :: l2 → (∀ p ∈ l1, bit o.ix p.ix = false → q9e p.a o.a = true) ∧ (o.op.isW = true → ∀ p ∈ l1, bit o.ix p.ix = true) ∧
      (o.op.isW = false → o.op.isA = true ∨ ((l1.filter fun p => !(bit o.ix p.ix)).filter fun p => p.op.isW).length ≤ o.back)
  edges : ∀ l1 o l2, os0 = l1 ++ o :: l2 → ∀ oo, ops[o.ix]? = some oo → ∀ e ∈ oo.after.toList, Region.binds .any e = true → ∃ p ∈ l1, p.ix = e.on
  all : ∀ i, i < ops.size → ∃ o ∈ os0, o.ix = i
  distinct : (os0.map (·.ix)).Nodup
  bits : ∀ (i : Nat) (oo : Oper), ops[i]? = some oo → ∀ j, bit i j = true → ∃ e ∈ oo.after.toList, Region.binds .any e = true ∧ e.on < i ∧ (j = e.on ∨ bit e.on j = true)
theorem qiy {ops : Array Oper} {os0 : List DOper} {bit : Nat → Nat → Bool} (ok : qj5 E N ops os0 bit) {L : Nat → Bool} (down : ∀ i oo, ops[i]? = some oo → L i = true → ∀ e ∈ oo.after.toList, Region.binds .any e = true → L e.on = true) : ∀ (i : Nat) (oo : Oper), ops[i]? = some oo →
    (∀ e ∈ oo.after.toList, Region.binds .any e = true → L e.on = true) → ∀ j, bit i j = true → L j = true := by
  intro i
  induction i using Nat.strongRecOn with
  | _ i ih =>
    intro oo ho he j hj
    obtain ⟨e, hm, hb, hlt, hcase⟩ := ok.bits i oo ho j hj
    rcases hcase with rfl | hcase
    · exact he e hm hb
    · have hl := he e hm hb
      cases ho2 : ops[e.on]? with
      | none =>
        have : i < ops.size := by
          rcases Nat.lt_or_ge i ops.size with g | g
          · exact g
          · rw [Array.getElem?_eq_none g] at ho; cases ho
        rw [Array.getElem?_eq_getElem (by omega)] at ho2; cases ho2
      | some o2 => exact ih e.on hlt o2 ho2 (down e.on o2 ho2 hl) j hcase
theorem qa3 {B1 : Nat} {K : T → Heap → Prop} {t : T} {hb : Heap} {hist : List Heap} {w w0 : World} {h0 : Heap} {B : Nat} (hB : B = w0.heap.size) : ∀ (pre : List Pd), q0a pre = [] → ∀ (h : Heap) (rest : List Pd), Sat h w → Lates (q03 (pre ++ rest)) h w B → Fr h0 h w0 w → runP E B1 (pre ++ rest) K t h hb hist →
    ∃ h', Sat h' w ∧ Lates (q03 rest) h' w B ∧ Fr h0 h' w0 w ∧ h.le h' ∧ runP E B1 rest K t h' hb hist
  | [], _, h, rest, hs, hl, hf, p => ⟨h, hs, hl, hf, Heap.q0e _, p⟩
  | .op q :: pre, he, _, _, _, _, _, _ => by simp [q0a] at he
  | .late b blk :: pre, he, h, rest, hs, hl, hf, p => by
    simp only [List.cons_append, runP] at p
    have h1 := hl.1 (b, blk) (by simp [q03])
    have hfr : Fr h0 (h.set b blk) w0 w := ?_
    · obtain ⟨h', g1, g2, g3, g4, g5⟩ := qa3 hB pre (by simpa [q0a] using he) (h.set b blk) rest (qc6 hs h1.2.1) (Lates.tail hl) hfr (p h1.1)
      exact ⟨h', g1, g2, g3, Heap.q07 (Heap.q0v (Heap.q0e _) h1.1 _) g4, g5⟩
    refine ⟨hf.os, hf.tape, hf.output, hf.size, hf.keep, ?_, ?_⟩
    · intro c hc hne
      unfold Heap.set at hne
      split at hne
      · rename_i e; rw [e, ← hB]; exact h1.2.2.1
      · exact hf.fresh c hc hne
    · intro c o2 hro
      unfold Heap.set
      have := hf.ro c o2 hro
      split
      · rename_i e; subst e
        have h2 := h1.1
        simp only at h2
        rw [this] at h2; cases h2
      · exact this
theorem qg8 {h : Heap} {w : World} (s : Sat h w) (o : Obj) : Sat h { w with heap := w.heap.push o } := by
  intro c y hy
  have hlt := s.lt hy
  rw [Array.getElem?_push, if_neg (by omega)]
  exact s c y hy
theorem qlh (h : Heap) (w : World) (o : Obj) : Fr h h w { w with heap := w.heap.push o } :=
  ⟨rfl, rfl, ⟨rfl, Nat.le_refl _⟩, by simp, fun b hb _ => by rw [Array.getElem?_push, if_neg (by omega)], fun _ x y => absurd x y, fun _ _ x => x⟩
structure Inv (E : Env) (N : Nat) (ops : Array Oper) (os0 : List DOper) (K : T → Heap → Prop) (h0 : Heap) (w0 : World) (listed : Array Bool) (a : Act) (w : World) (κ : List Pd) (t : T) (h hb : Heap) (hist : List Heap) : Prop where
  run : runP E w.heap.size κ K t h hb hist
  tok : Tok N t a
  sat : Sat h w
  satb : Sat hb w
  lates : Lates (q03 κ) h w w0.heap.size
  nro : ∀ x ∈ q03 κ, ∀ o, x.2 ≠ .ro o
  hle : hb.le h
  left : q0a κ = os0.filter fun o => !(listed.getD o.ix true)
  fr : Fr h0 h w0 w
  size : listed.size = ops.size
  down : ∀ (i : Nat) (oo : Oper), ops[i]? = some oo → listed.getD i false = true → ∀ e ∈ oo.after.toList, Region.binds .any e = true → listed.getD e.on false = true
theorem qje {l : Array Bool} {i j : Nat} (hi : i < l.size) (d : Bool) : (l.setIfInBounds i true).getD j d = if j = i then true else l.getD j d := by
  simp only [Array.getD_eq_getD_getElem?, Array.getElem?_setIfInBounds]
  by_cases e : i = j
  · subst e; simp [hi]
  · rw [if_neg e, if_neg (Ne.symm e)]
theorem qi2 {os0 l1 l2 : List DOper} {o : DOper} {f : DOper → Bool} (h : os0 = l1 ++ o :: l2) (ho : f o = true) : os0.filter f = l1.filter f ++ o :: l2.filter f := by
  subst h; simp [List.filter_append, List.filter_cons, ho]
theorem qk7 {ops : Array Oper} {os0 : List DOper} {bit : Nat → Nat → Bool} (ok : qj5 E N ops os0 bit) {K : T → Heap → Prop} {h0 : Heap} {w0 : World} {Q' : Exit → Act → World → Prop}
    (hq : ∀ t h a w, Tok N t a → Sat h w → Fr h0 h w0 w → K t h → Q' .normal a w) : ∀ (fuel : Nat) (listed : Array Bool) (a : Act) (w : World) (κ : List Pd) (t : T) (h hb : Heap) (hist : List Heap),
    Inv E N ops os0 K h0 w0 listed a w κ t h hb hist → (q0a κ).length ≤ fuel → wpAny E.P .any ops Q' fuel listed a w := by
  intro fuel
  have done : ∀ (listed : Array Bool) (a : Act) (w : World) (κ : List Pd) (t : T) (h hb : Heap) (hist : List Heap), Inv E N ops os0 K h0 w0 listed a w κ t h hb hist → q0a κ = [] → Q' .normal a w := by
    intro listed a w κ t h hb hist I he
    obtain ⟨h', hs', hl', hf', _, hr⟩ := qa3 (E := E) rfl κ he h [] I.sat (by simpa using I.lates) I.fr (by simpa using I.run)
    exact hq t h' a w I.tok hs' hf' hr
  have unlisted : ∀ (listed : Array Bool) (a : Act) (w : World) (κ : List Pd) (t : T) (h hb : Heap) (hist : List Heap), Inv E N ops os0 K h0 w0 listed a w κ t h hb hist → q0a κ = [] → Region.ready .any ops listed = [] := by
    intro listed a w κ t h hb hist I he
    unfold Region.ready
    rw [List.filter_eq_nil_iff]
    intro i hi
    have hi' : i < ops.size := by simpa using hi
    obtain ⟨o, ho, hix⟩ := ok.all i hi'
    have := I.left
    rw [he] at this
    have h1 := List.filter_eq_nil_iff.1 this.symm o ho
    rw [hix] at h1
    simp only [Bool.not_eq_true', Bool.not_eq_false] at h1
    simp [h1]
  have first : ∀ (listed : Array Bool) (a : Act) (w : World) (κ : List Pd) (t : T) (h hb : Heap) (hist : List Heap), Inv E N ops os0 K h0 w0 listed a w κ t h hb hist → Region.ready .any ops listed = [] → q0a κ = [] := by
    intro listed a w κ t h hb hist I hr
    cases e : q0a κ with
    | nil => rfl
    | cons o r =>
      exfalso
      have hl := I.left
      rw [e] at hl
      obtain ⟨l1, l2, hos, hl1, ho⟩ : ∃ l1 l2, os0 = l1 ++ o :: l2 ∧ (∀ p ∈ l1, (!(listed.getD p.ix true)) = false) ∧ (!(listed.getD o.ix true)) = true := by
        have := List.filter_eq_cons_iff.1 hl.symm
        obtain ⟨l1, l2, h1, h2, h3, h4⟩ := this
        exact ⟨l1, l2, h1, fun p hp => by simpa using h2 p hp, h3⟩
      have hlt := (ok.comp o (by rw [hos]; simp)).2
      have : o.ix ∈ Region.ready .any ops listed := by
        unfold Region.ready
        rw [List.mem_filter]
        refine ⟨by simpa using hlt, ?_⟩
        simp only [Bool.and_eq_true]
        refine ⟨ho, ?_⟩
        rw [Array.getElem?_eq_getElem hlt]
        simp only [Option.map_some, Option.getD_some, Array.all_eq_true']
        intro e he
        cases hb : Region.binds .any e
        · simp
        · simp only [Bool.not_true, Bool.false_or]
          obtain ⟨p, hp, hpe⟩ := ok.edges l1 o l2 hos _ (Array.getElem?_eq_getElem hlt) e (by simpa using he) hb
          have h1 := hl1 p hp
          rw [hpe] at h1
          simp only [Bool.not_eq_false'] at h1
          have hpl := (ok.comp p (by rw [hos]; simp [hp])).2
          rw [hpe, ← I.size] at hpl
          simp only [Array.getD_eq_getD_getElem?, Array.getElem?_eq_getElem hpl, Option.getD_some] at h1 ⊢
          exact h1
      rw [hr] at this
      simp at this
  induction fuel with
  | zero =>
    intro listed a w κ t h hb hist I hlen
    have he : q0a κ = [] := List.eq_nil_of_length_eq_zero (by omega)
    exact ⟨unlisted _ _ _ _ _ _ _ _ I he, done _ _ _ _ _ _ _ _ I he⟩
  | succ fuel ih =>
    intro listed a w κ t h hb hist I hlen
    refine ⟨fun hr => done _ _ _ _ _ _ _ _ I (first _ _ _ _ _ _ _ _ I hr), ?_⟩
    intro i hi
    unfold Region.ready at hi
    rw [List.mem_filter] at hi
    obtain ⟨hir, hi⟩ := hi
    have hisz : i < ops.size := by simpa using hir
    simp only [Bool.and_eq_true] at hi
    obtain ⟨hun, hedges⟩ := hi
    rw [Array.getElem?_eq_getElem hisz] at hedges
    simp only [Option.map_some, Option.getD_some, Array.all_eq_true'] at hedges
    have hedges' : ∀ e ∈ (ops[i]'hisz).after.toList, Region.binds .any e = true → listed.getD e.on false = true := by
      intro e he hb'
      have := hedges e (by simpa using he)
      simpa [hb'] using this
    obtain ⟨o, ho, rfl⟩ := ok.all i hisz
    obtain ⟨l1, l2, hos⟩ := List.append_of_mem ho
    have hleft := I.left
    rw [qi2 hos hun] at hleft
    obtain ⟨pre, post, rfl, hpre, hpost⟩ := qbo κ _ _ o hleft
    have hlist := qiy ok (L := fun i => listed.getD i false) I.down o.ix _ (Array.getElem?_eq_getElem hisz) hedges'
    have hsame : ∀ p : DOper, p ∈ os0 → listed.getD p.ix true = listed.getD p.ix false := by
      intro p hp
      have := (ok.comp p hp).2
      rw [← I.size] at this
      simp [Array.getD_eq_getD_getElem?, Array.getElem?_eq_getElem this]
    have hnobit : ∀ p ∈ q0a pre, bit o.ix p.ix = false := by
      intro p hp
      rw [hpre, List.mem_filter] at hp
      cases hb' : bit o.ix p.ix with
      | false => rfl
      | true =>
        have h1 := hlist p.ix hb'
        have h2 := hp.2
        rw [hsame p (by rw [hos]; simp [hp.1])] at h2
        have h1' : listed.getD p.ix false = true := h1
        rw [h1'] at h2; simp at h2
    obtain ⟨p1, p2, p3⟩ := ok.pairs l1 o l2 hos
    have hmem : ∀ p ∈ q0a pre, p ∈ l1 := by
      intro p hp; rw [hpre, List.mem_filter] at hp; exact hp.1
    have hapart : ∀ p ∈ q0a pre, q9e p.a o.a = true := fun p hp => p1 p (hmem p hp) (hnobit p hp)
    have hcomp : ∀ p ∈ q0a pre, q5j E.P E.ψ N ops p.ix = some p.a := fun p hp => (ok.comp p (by rw [hos]; simp [hmem p hp])).1
    have hco := (ok.comp o ho).1
    have hleft' : ∀ κ', q0a κ' = q0a pre ++ q0a post → q0a κ' = os0.filter fun q => !((listed.setIfInBounds o.ix true).getD q.ix true) := by
      intro κ' hk
      rw [hk, hpre, hpost, hos]
      have hnd := ok.distinct
      rw [hos] at hnd
      simp only [List.map_append, List.map_cons] at hnd
      have hne1 : ∀ p ∈ l1, p.ix ≠ o.ix := by
        intro p hp e
        have := (List.nodup_append.1 hnd).2.2 p.ix (List.mem_map.2 ⟨p, hp, rfl⟩) o.ix (by simp)
        exact this e
      have hne2 : ∀ p ∈ l2, p.ix ≠ o.ix := by
        intro p hp e
        have := (List.nodup_cons.1 (List.nodup_append.1 hnd).2.1).1
        exact this (List.mem_map.2 ⟨p, hp, e⟩)
      have hisz' : o.ix < listed.size := by rw [I.size]; exact hisz
      simp only [List.filter_append, List.filter_cons, qje hisz', if_true, Bool.not_true, Bool.false_eq_true, if_false]
      congr 1
      · apply List.filter_congr
        intro p hp; rw [if_neg (hne1 p hp)]
      · apply List.filter_congr
        intro p hp; rw [if_neg (hne2 p hp)]
    have hsize' : (listed.setIfInBounds o.ix true).size = ops.size := by simpa using I.size
    have hdown' : ∀ (i : Nat) (oo : Oper), ops[i]? = some oo → (listed.setIfInBounds o.ix true).getD i false = true → ∀ e ∈ oo.after.toList, Region.binds .any e = true → (listed.setIfInBounds o.ix true).getD e.on false = true := by
      intro j oo hj hl e he hb'
      have hisz' : o.ix < listed.size := by rw [I.size]; exact hisz
      rw [qje hisz'] at hl ⊢
      split
      · rfl
      · split at hl
        · rename_i hne he2; subst he2
          rw [Array.getElem?_eq_getElem hisz] at hj
          simp only [Option.some.injEq] at hj; subst hj
          exact hedges' e he hb'
        · exact I.down j oo hj hl e he hb'
    have hlen' : (q0a pre ++ q0a post).length ≤ fuel := by
      rw [q0l] at hlen
      simp only [q0a, List.length_append, List.length_cons] at hlen ⊢
      omega
    cases hW : o.op.isW with
    | true =>
      have hnil : q0a pre = [] := by
        cases e : q0a pre with
        | nil => rfl
        | cons p r =>
          exfalso
          have hp : p ∈ q0a pre := by rw [e]; simp
          have h1 := p2 hW p (hmem p hp)
          rw [hnobit p hp] at h1; cases h1
      obtain ⟨h', hs', hl', hf', hle', hr⟩ := qa3 (E := E) rfl pre hnil h (.op o :: post) I.sat I.lates I.fr I.run
      simp only [runP] at hr
      refine qel hco hr I.tok hs' I.satb (Heap.q07 I.hle hle') (Nat.le_refl _) ?_
      intro u h2 hb2 hist2 w2 a2 tok2 hs2 hsb2 hf2 hcase hle2 pp
      refine ih (listed.setIfInBounds o.ix true) a2 w2 post _ h2 hb2 hist2 ⟨qcy hf2.size _ _ _ _ _ pp, tok2, hs2, hsb2, ?_, ?_, hle2, ?_, hf'.trans hf2, hsize', hdown'⟩ ?_
      · exact Lates.fr (by simpa [q03] using hl') hf2
      · intro x hx; exact I.nro x (by rw [q08]; simp [q03, hx])
      · exact hleft' post (by rw [hnil]; simp)
      · rw [hnil] at hlen'; simpa using hlen'
    | false =>
     cases hMM : o.op.isM with
     | true =>
      have hAA : o.op.isA = false := by revert hMM; cases o.op <;> simp [AOp.isM, AOp.isA]
      have hlates : Lates (q03 (pre ++ post)) h w w0.heap.size := by
        have := I.lates
        rw [q08] at this ⊢
        simpa [q03] using this
      have hnro : ∀ x ∈ q03 (pre ++ post), ∀ o, x.2 ≠ .ro o := by
        have := I.nro
        rw [q08] at this ⊢
        simpa [q03] using this
      have hfacts := qiu hW hAA hMM (K := K) (post := post) t pre hapart hcomp t h hb hist a w w0.heap.size (fun _ _ => rfl) I.tok I.sat I.satb I.hle (Nat.le_refl _)
        (by
          have := I.lates
          rw [q08] at this
          refine ⟨fun x hx => this.1 x (by simp [hx]), ?_⟩
          have h2 := this.2
          rw [List.map_append] at h2
          exact (List.nodup_append.1 h2).1) I.run
      rcases hfacts with hoff | ⟨hon, x, ad, n, c, hx, hv, hwhere⟩
      · refine q7z hco I.tok hoff (fun e => by cases e) (fun _ a' tok' => ?_)
        refine ih _ a' w (pre ++ post) _ h hb hist ⟨qc3 hW t hoff pre hapart t h hb hist (fun _ _ => rfl) I.run, tok', I.sat, I.satb, hlates, hnro, I.hle, hleft' _ (q0l _ _), I.fr, hsize', hdown'⟩ (by rw [q0l]; exact hlen')
      · refine q7z hco I.tok hon (fun _ o0 hd hop hput => ?_) (fun e => by cases e)
        rcases hop with hbad | hcc
        · rw [hbad] at hx; cases hx
        · obtain ⟨w', hr, e1, e2, e3, e4, e5, e6⟩ := mark_run (w := w) I.tok.agree (by rw [← hx]; exact hcc) hv
          refine q3i hr ?_
          have hnotro : ∀ o, h ad.block ≠ some (.ro o) := by
            intro o2 ho2
            rcases hwhere with ⟨y, hy, ey⟩ | hnf | hge
            · have := (hlates.1 y (by rw [q08]; simp [hy])).1
              rw [ey, ho2] at this; cases this
            · exact hnf (.inr ⟨o2, ho2⟩)
            · have := I.sat.lt ho2; omega
          have hsat : Sat h w' := by
            intro k y hy
            by_cases ek : k = ad.block
            · subst ek
              exact e6 y (fun o2 e => hnotro o2 (by rw [hy, e])) (I.sat _ _ hy)
            · rw [e5 k ek]; exact I.sat k y hy
          have hlates' : Lates (q03 (pre ++ post)) h w' w0.heap.size := by
            refine ⟨fun y hy => ?_, hlates.2⟩
            obtain ⟨q1, q2, q3, q4⟩ := hlates.1 y hy
            refine ⟨q1, ?_, q3, by rw [e4]; exact q4⟩
            by_cases ek : y.1 = ad.block
            · rw [ek] at q2 ⊢
              exact e6 y.2 (hnro y hy) q2
            · rw [e5 _ ek]; exact q2
          have hfr' : Fr h0 h w0 w' := by
            refine ⟨e1.trans I.fr.os, e2.trans I.fr.tape, ⟨e3.1.trans I.fr.output.1, Nat.le_trans I.fr.output.2 e3.2⟩, by rw [e4]; exact I.fr.size, ?_, I.fr.fresh, I.fr.ro⟩
            intro k hk hfree
            by_cases ek : k = ad.block
            · exfalso
              subst ek
              rcases hwhere with ⟨y, hy, ey⟩ | hnf | hge
              · have := (hlates.1 y (by rw [q08]; simp [hy])).2.2.1
                omega
              · rcases hfree with hfree | ⟨o2, hfree⟩
                · have := I.fr.fresh _ hfree (fun e => hnf (.inl e)); omega
                · exact hnf (.inr ⟨o2, I.fr.ro _ _ hfree⟩)
              · have := I.fr.size; omega
            · rw [e5 k ek]; exact I.fr.keep k hk hfree
          exact ih _ _ w' (pre ++ post) _ h hb hist ⟨qcy (Nat.le_of_eq e4.symm) _ _ _ _ _ (qkf hW hAA hMM t hon hx hv pre hapart t h hb hist (fun _ _ => rfl) I.run), hput _, hsat, sat_le I.hle hsat, hlates', hnro, I.hle, hleft' _ (q0l _ _), hfr', hsize', hdown'⟩ (by rw [q0l]; exact hlen')
     | false =>
      have hk : 0 + q2n pre ≤ o.back ∨ o.op.isA = true := by
        rcases p3 hW with hA | hcnt
        · exact .inr hA
        · left
          rw [Nat.zero_add, qer, hpre]
          refine Nat.le_trans ?_ hcnt
          apply List.Sublist.length_le
          apply List.Sublist.filter
          have : l1.filter (fun p => !(listed.getD p.ix true)) = (l1.filter fun p => !(bit o.ix p.ix)).filter (fun p => !(listed.getD p.ix true)) := by
            rw [List.filter_filter]
            apply List.filter_congr
            intro p hp
            cases hl : listed.getD p.ix true with
            | true => simp
            | false =>
              have : p ∈ q0a pre := by rw [hpre, List.mem_filter]; exact ⟨hp, by simp [hl]⟩
              simp [hnobit p this]
          rw [this]
          exact List.filter_sublist
      have hpreL : Lates (q03 pre) h w w0.heap.size := by
        have := I.lates
        rw [q08] at this
        refine ⟨fun x hx => this.1 x (by simp [hx]), ?_⟩
        have h2 := this.2
        rw [List.map_append] at h2
        exact (List.nodup_append.1 h2).1
      have hcase : (o.op.isS = false ∨ ∀ g, q00 E.fid (oev E.fid t) g o.op ≠ none) ∨ (o.op.isS = true ∧ ∃ b0, (∀ g g' : Heap, g b0 = g' b0 → q00 E.fid (oev E.fid t) g o.op = q00 E.fid (oev E.fid t) g' o.op) ∧ ∀ g : Heap, g b0 = none → q00 E.fid (oev E.fid t) g o.op = none) := by
        cases hSS : o.op.isS with
        | false => exact .inl (.inl rfl)
        | true =>
          obtain ⟨b0, hdep, hN | hno⟩ := qkh (fid := E.fid) (ρ := oev E.fid t) hSS
          · exact .inl (.inr hN)
          · exact .inr ⟨rfl, b0, hdep, hno⟩
      rcases hcase with hSN | ⟨hSS, b0, hdep, hno⟩
      rotate_left
      · -- a string of one block
        have hAA : o.op.isA = false := by revert hSS; cases o.op <;> simp [AOp.isS, AOp.isA]
        have hk' : 0 + q2n pre ≤ o.back := by
          rcases hk with hk | hk
          · exact hk
          · rw [hAA] at hk; cases hk
        have hlates : Lates (q03 (pre ++ post)) h w w0.heap.size := by
          have := I.lates
          rw [q08] at this ⊢
          simpa [q03] using this
        have hnro : ∀ x ∈ q03 (pre ++ post), ∀ o, x.2 ≠ .ro o := by
          have := I.nro
          rw [q08] at this ⊢
          simpa [q03] using this
        obtain ⟨kn, hk1, hk2, hk3⟩ : ∃ kn : Option Blk, (h b0 = none ∨ h b0 = kn) ∧ (∀ x ∈ q03 pre, x.1 = b0 → kn = some x.2) ∧ (∀ blk, kn = some blk → h b0 = some blk ∨ (b0, blk) ∈ q03 pre) := by
          cases q : h b0 with
          | some blk =>
            refine ⟨some blk, .inr rfl, fun x hx e => ?_, fun blk' e => .inl e⟩
            have := (hpreL.1 x hx).1
            rw [e, q] at this; cases this
          | none =>
            by_cases hx : ∃ x ∈ q03 pre, x.1 = b0
            · obtain ⟨x, hx, e⟩ := hx
              refine ⟨some x.2, .inl rfl, fun y hy ey => ?_, fun blk' e' => .inr ?_⟩
              · have hn := hpreL.2
                have : x = y := by
                  obtain ⟨i, hi, rfl⟩ := List.getElem_of_mem hx
                  obtain ⟨j, hj, rfl⟩ := List.getElem_of_mem hy
                  rw [List.nodup_iff_pairwise_ne, List.pairwise_map, List.pairwise_iff_getElem] at hn
                  rcases Nat.lt_trichotomy i j with c | c | c
                  · exact absurd (e.trans ey.symm) (hn i j hi hj c)
                  · subst c; rfl
                  · exact absurd (ey.trans e.symm) (hn j i hj hi c)
                rw [this]
              · simp only [Option.some.injEq] at e'
                rw [← e', ← e]; exact hx
            · exact ⟨none, .inl rfl, fun x hx' e => absurd ⟨x, hx', e⟩ hx, fun blk e => by cases e⟩
        obtain ⟨wp, q1, q2, q3⟩ := qhs w b0
        have satp : ∀ g : Heap, Sat g w → Sat g wp := fun g sg c y hy => by rw [q3 c (sg.lt hy)]; exact sg c y hy
        have latp : Lates (q03 pre) h wp w0.heap.size := ⟨fun x hx => by
          obtain ⟨r1, r2, r3, r4⟩ := hpreL.1 x hx
          exact ⟨r1, by rw [q3 _ r4]; exact r2, r3, Nat.lt_of_lt_of_le r4 q2⟩, hpreL.2⟩
        have h0 : hb b0 = none ∨ hb b0 = kn := by
          cases r : hb b0 with
          | none => exact .inl rfl
          | some y =>
            rcases hk1 with r2 | r2
            · rw [I.hle _ _ r] at r2; cases r2
            · rw [I.hle _ _ r] at r2; exact .inr r2
        have hfacts := qit hW hAA hMM hSS (K := K) (post := post) (hb0 := hb) t hdep hno h0 pre hapart hcomp hk2 t h hb hist 0 a wp w0.heap.size (fun _ _ => rfl) (.inl rfl) hk' I.tok (satp h I.sat) (satp hb I.satb) I.hle q2 q1 latp (fun _ => hk1) I.run
        rcases hfacts with hoff | ⟨hon, blk, v, hkn, hval⟩
        · refine q7z hco I.tok hoff (fun e => by cases e) (fun _ a' tok' => ?_)
          refine ih _ a' w (pre ++ post) _ h hb hist ⟨qc3 hW t hoff pre hapart t h hb hist (fun _ _ => rfl) I.run, tok', I.sat, I.satb, hlates, hnro, I.hle, hleft' _ (q0l _ _), I.fr, hsize', hdown'⟩ (by rw [q0l]; exact hlen')
        · obtain ⟨he, hse, heb, hbw⟩ : ∃ he : Heap, Sat he w ∧ he b0 = some blk ∧ b0 < w.heap.size := by
            rcases hk3 blk hkn with r | r
            · exact ⟨h, I.sat, r, I.sat.lt r⟩
            · obtain ⟨r1, r2, r3, r4⟩ := hpreL.1 _ r
              exact ⟨h.set b0 blk, qc6 I.sat r2, by unfold Heap.set; rw [if_pos rfl], r4⟩
          have hv := hval he heb
          refine q7z hco I.tok hon (fun _ o0 hd hop hput => ?_) (fun e => by cases e)
          rcases hop with hbad | hcc
          · rw [hbad] at hv; simp [q00] at hv
          · refine q3i (q8i (P := E.P) hse I.tok.agree E.fid_ok (fun f => rfl) hcc hv) ?_
            have hl2 : ∀ x ∈ q03 pre, x.1 = b0 → x.2 = blk := fun x hx e => by
              have := hk2 x hx e
              rw [hkn] at this
              exact (Option.some.inj this).symm
            exact ih _ _ w (pre ++ post) _ h hb hist ⟨qke hW hAA hMM hSS t ⟨hdep, hval, hno⟩ hbw (by rw [← hkn]; exact h0) hon pre hapart hl2 t h hb hist 0 (fun _ _ => rfl) I.hle (fun _ => by rw [← hkn]; exact hk1) (.inl rfl) hk' I.run, hput v, I.sat, I.satb, hlates, hnro, I.hle, hleft' _ (q0l _ _), I.fr, hsize', hdown'⟩ (by rw [q0l]; exact hlen')
      have hfacts := facts hW (K := K) (post := post) (hb0 := hb) t hSN pre hapart hcomp t h hb hist 0 a w w0.heap.size (fun _ _ => rfl) (.inl rfl) hk I.tok I.sat I.satb I.hle (Nat.le_refl _)
        (by
          have := I.lates
          rw [q08] at this
          refine ⟨fun x hx => this.1 x (by simp [hx]), ?_⟩
          have h2 := this.2
          rw [List.map_append] at h2
          exact (List.nodup_append.1 h2).1) I.run
      have hlates : Lates (q03 (pre ++ post)) h w w0.heap.size := by
        have := I.lates
        rw [q08] at this ⊢
        simpa [q03] using this
      have hnro : ∀ x ∈ q03 (pre ++ post), ∀ o, x.2 ≠ .ro o := by
        have := I.nro
        rw [q08] at this ⊢
        simpa [q03] using this
      rcases hfacts with hoff | ⟨hon, hF, hA⟩
      · refine q7z hco I.tok hoff (fun e => by cases e) (fun _ a' tok' => ?_)
        refine ih _ a' w (pre ++ post) _ h hb hist ⟨qc3 hW t hoff pre hapart t h hb hist (fun _ _ => rfl) I.run, tok', I.sat, I.satb, hlates, hnro, I.hle, hleft' _ (q0l _ _), I.fr, hsize', hdown'⟩ (by rw [q0l]; exact hlen')
      · cases hAA : o.op.isA with
        | false =>
          obtain ⟨v, hv⟩ := hF hAA hMM
          have hk' : 0 + q2n pre ≤ o.back := by
            rcases hk with hk | hk
            · exact hk
            · rw [hAA] at hk; cases hk
          refine q7z hco I.tok hon (fun _ o0 hd hop hput => ?_) (fun e => by cases e)
          rcases hop with hbad | hcc
          · rw [hbad] at hv; simp [q00] at hv
          · refine q3i (q8i (P := E.P) I.satb I.tok.agree E.fid_ok (fun f => rfl) hcc hv) ?_
            exact ih _ _ w (pre ++ post) _ h hb hist ⟨qg6 hW hAA hMM t hSN pre hapart t h hb hist 0 (fun _ _ => rfl) (.inl rfl) hk' (fun _ => hv) (fun e => by rw [hon] at e; cases e) I.run, hput v, I.sat, I.satb, hlates, hnro, I.hle, hleft' _ (q0l _ _), I.fr, hsize', hdown'⟩ (by rw [q0l]; exact hlen')
        | true =>
          have hex := hA hAA
          refine q7z hco I.tok hon (fun _ o0 hd hop hput => ?_) (fun e => by cases e)
          rcases hop with hbad | hcc
          · obtain ⟨_, hv⟩ := hex 0; rw [hbad] at hv; simp [q7o, z6m] at hv
          · obtain ⟨c, blk, mk, obj, w', hv, hr, e1, e2, e3, e4, hbs⟩ := qgd (w := w) I.tok.agree hcc hex
            refine q3i hr ?_
            have hfp : Fr h h w w' := (qlh h w obj).trans (Fr.qdm e1 e2 e3 e4)
            refine ih _ _ w' (pre ++ .late w.heap.size blk :: post) _ h hb hist ⟨qcy (Nat.le_trans (Nat.le_succ _) (Nat.le_of_eq (by simp [e1]))) _ _ _ _ _ (qkg hW hAA (Nat.le_refl _) t hon hv pre hapart t h hb hist (fun _ _ => rfl) I.run), hput _, Sat.q9g (w := { w with heap := w.heap.push obj }) e1 (qg8 I.sat obj), Sat.q9g (w := { w with heap := w.heap.push obj }) e1 (qg8 I.satb obj), ?_, ?_, I.hle, hleft' _ (by rw [q0l]; rfl), I.fr.trans hfp, hsize', hdown'⟩ (by rw [q0l]; exact hlen')
            have hl2 := Lates.fr hlates hfp
            rw [q08] at hl2 ⊢
            rotate_left
            · intro x hx
              rw [q08] at hx
              simp only [q03, List.mem_append, List.mem_cons] at hx
              rw [q08] at hnro
              rcases hx with hx | rfl | hx
              · exact hnro x (by simp [hx])
              · exact qk5 hv
              · exact hnro x (by simp [hx])
            refine ⟨?_, ?_⟩
            · intro x hx
              simp only [q03, List.mem_append, List.mem_cons] at hx
              rcases hx with hx | rfl | hx
              · exact hl2.1 x (by simp [hx])
              · exact ⟨I.sat.none_of_ge (Nat.le_refl _), by simpa [e1] using hbs, I.fr.size, by simp [e1]⟩
              · exact hl2.1 x (by simp [hx])
            · have hold : ∀ x ∈ q03 pre ++ q03 post, x.1 ≠ w.heap.size := by
                intro x hx e
                have := (hlates.1 x (by rw [q08]; exact hx)).2.2.2
                omega
              have hn := hl2.2
              simp only [q03, List.map_append, List.map_cons]
              rw [List.map_append] at hn
              rw [List.nodup_append] at hn ⊢
              refine ⟨hn.1, List.nodup_cons.2 ⟨?_, hn.2.1⟩, ?_⟩
              · intro hm
                obtain ⟨x, hx, e⟩ := List.mem_map.1 hm
                exact hold x (by simp [hx]) e
              · intro b1 hb1 b2 hb2
                simp only [List.mem_cons] at hb2
                rcases hb2 with rfl | hb2
                · obtain ⟨x, hx, e⟩ := List.mem_map.1 hb1
                  rw [← e]; exact hold x (by simp [hx])
                · exact hn.2.2 b1 hb1 b2 hb2
end
section
variable {E : Env} {N : Nat}
def toD (x : Nat × Nat × AOper) : DOper := { ix := x.1, dst := x.2.2.dst, op := x.2.2.op, guard := x.2.2.guard, back := x.2.1 }
theorem qck {P : Program} {ψ : FuncId → Option Nat} {ops : Array Oper} : ∀ (order : List (Nat × Nat)) (l : List (Nat × Nat × AOper)), qb4 P ψ N ops order = some l → ∀ x ∈ l, q5j P ψ N ops x.1 = some x.2.2
  | [], l, h => by simp only [qb4, Option.some.injEq] at h; subst h; simp
  | (i, b) :: r, l, h => by
    simp only [qb4] at h
    split at h
    · rename_i o os h1 h2
      simp only [Option.some.injEq] at h; subst h
      intro x hx
      simp only [List.mem_cons] at hx
      rcases hx with rfl | hx
      · exact h1
      · exact qck r os h2 x hx
    · cases h
theorem qbj : ∀ (l : List Nat), distinct l = true → l.Nodup
  | [], _ => List.nodup_nil
  | x :: l, h => by
    simp only [distinct, Bool.and_eq_true, Bool.not_eq_true', List.contains_eq_mem, decide_eq_false_iff_not] at h
    exact List.nodup_cons.2 ⟨h.1, qbj l h.2⟩
theorem qdu {bf : Nat → Nat → Bool} : ∀ (l pre : List (Nat × Nat × AOper)), qez bf pre l = true → ∀ l1 x l2, l = l1 ++ x :: l2 →
    (((pre ++ l1).filter fun y => !(bf x.1 y.1)).all fun y => q9e y.2.2 x.2.2) = true ∧
    (if x.2.2.op.isW then ((pre ++ l1).filter fun y => !(bf x.1 y.1)).isEmpty else x.2.2.op.isA || decide ((((pre ++ l1).filter fun y => !(bf x.1 y.1)).filter fun y => y.2.2.op.isW).length ≤ x.2.1)) = true
  | [], pre, _, l1, x, l2, e => by simp at e
  | y :: l, pre, h, [], x, l2, e => by
    simp only [List.nil_append, List.cons.injEq] at e
    obtain ⟨rfl, rfl⟩ := e
    simp only [qez, Bool.and_eq_true] at h
    rw [List.append_nil]
    exact ⟨h.1.1, h.1.2⟩
  | y :: l, pre, h, z :: l1, x, l2, e => by
    simp only [List.cons_append, List.cons.injEq] at e
    obtain ⟨rfl, rfl⟩ := e
    simp only [qez, Bool.and_eq_true] at h
    have := qdu _ _ h.2 l1 x l2 rfl
    simpa [List.append_assoc] using this
theorem qe1 {ops : Array Oper} : ∀ (l pre : List Nat), qfk ops pre l = true → ∀ l1 i l2, l = l1 ++ i :: l2 → ∃ o, ops[i]? = some o ∧ ∀ e ∈ o.after.toList, Region.binds .any e = true → e.on ∈ pre ++ l1
  | [], pre, _, l1, i, l2, e => by simp at e
  | j :: l, pre, h, [], i, l2, e => by
    simp only [List.nil_append, List.cons.injEq] at e
    obtain ⟨rfl, rfl⟩ := e
    simp only [qfk, Bool.and_eq_true] at h
    have h1 := h.1
    split at h1
    · rename_i o ho
      refine ⟨o, ho, fun e he hb => ?_⟩
      have := List.all_eq_true.1 h1 e he
      simp only [hb, Bool.not_true, Bool.false_or, List.contains_eq_mem, decide_eq_true_eq] at this
      simpa using this
    · cases h1
  | j :: l, pre, h, k :: l1, i, l2, e => by
    simp only [List.cons_append, List.cons.injEq] at e
    obtain ⟨rfl, rfl⟩ := e
    simp only [qfk, Bool.and_eq_true] at h
    obtain ⟨o, ho, h2⟩ := qe1 _ _ h.2 l1 i l2 rfl
    exact ⟨o, ho, fun e he hb => by have := h2 e he hb; simpa [List.append_assoc] using this⟩
theorem qhz {A : Array Nat} : ∀ (l : List Edge) (s j : Nat), (l.foldl (fun s e => if Region.binds .any e then s ||| 2 ^ e.on ||| A.getD e.on 0 else s) s).testBit j = true → s.testBit j = true ∨ ∃ e ∈ l, Region.binds .any e = true ∧ (j = e.on ∨ (A.getD e.on 0).testBit j = true)
  | [], s, j, h => .inl h
  | e :: l, s, j, h => by
    simp only [List.foldl_cons] at h
    rcases qhz l _ j h with h1 | ⟨e', he', h2⟩
    · split at h1
      · rename_i hb
        simp only [Nat.testBit_or, Bool.or_eq_true, Nat.testBit_two_pow] at h1
        rcases h1 with (h1 | h1) | h1
        · exact .inl h1
        · exact .inr ⟨e, by simp, hb, .inl (by simpa [eq_comm] using h1)⟩
        · exact .inr ⟨e, by simp, hb, .inr h1⟩
      · exact .inl h1
    · exact .inr ⟨e', by simp [he'], h2⟩
theorem qjq {ops : Array Oper} {order : List (Nat × Nat)} {l : List (Nat × Nat × AOper)} (hc : qb4 E.P E.ψ N ops order = some l) (hd : qjg ops l = true) :
    qj5 E N ops (l.map toD) fun i j => ((anc ops).getD i 0).testBit j := by
  unfold qjg at hd
  simp only [Bool.and_eq_true] at hd
  obtain ⟨⟨⟨⟨⟨⟨h1, h2⟩, h3⟩, h4⟩, h5⟩, h6⟩, h7⟩ := hd
  refine ⟨?_, ?_, ?_, ?_, ?_, ?_⟩
  · intro o ho
    obtain ⟨x, hx, rfl⟩ := List.mem_map.1 ho
    exact ⟨qck order l hc x hx, by simpa [toD] using List.all_eq_true.1 h6 x hx⟩
  · intro l1 o l2 e
    obtain ⟨m1, m2, rfl, rfl, e2⟩ := List.map_eq_append_iff.1 e
    obtain ⟨x, m3, rfl, rfl, rfl⟩ := List.map_eq_cons_iff.1 e2
    obtain ⟨p1, p2⟩ := qdu _ _ h2 m1 x m3 rfl
    simp only [List.nil_append] at p1 p2
    refine ⟨?_, ?_, ?_⟩
    · intro p hp hb
      obtain ⟨y, hy, rfl⟩ := List.mem_map.1 hp
      refine List.all_eq_true.1 p1 y (List.mem_filter.2 ⟨hy, ?_⟩)
      have : ((anc ops).getD x.1 0).testBit y.1 = false := hb
      rw [this]; rfl
    · intro hW p hp
      obtain ⟨y, hy, rfl⟩ := List.mem_map.1 hp
      have hW' : x.2.2.op.isW = true := hW
      rw [if_pos hW'] at p2
      have := List.filter_eq_nil_iff.1 (List.isEmpty_iff.1 p2) y hy
      simpa [toD] using this
    · intro hW
      have hW' : x.2.2.op.isW = false := hW
      rw [if_neg (by simp [hW'])] at p2
      simp only [Bool.or_eq_true, decide_eq_true_eq] at p2
      rcases p2 with p2 | p2
      · exact .inl p2
      · right
        have : ((m1.map toD).filter fun p => !((anc ops).getD (toD x).ix 0).testBit p.ix).filter (fun p => p.op.isW) = ((m1.filter fun y => !((anc ops).getD x.1 0).testBit y.1).filter fun y => y.2.2.op.isW).map toD := by
          rw [List.filter_map, List.filter_map]; rfl
        rw [this, List.length_map]
        exact p2
  · intro l1 o l2 e oo ho e' he' hb
    obtain ⟨m1, m2, rfl, rfl, e2⟩ := List.map_eq_append_iff.1 e
    obtain ⟨x, m3, rfl, rfl, rfl⟩ := List.map_eq_cons_iff.1 e2
    obtain ⟨o2, ho2, h⟩ := qe1 _ _ h3 (m1.map (·.1)) x.1 (m3.map (·.1)) (by simp)
    have : (toD x).ix = x.1 := rfl
    rw [this, ho2] at ho
    simp only [Option.some.injEq] at ho; subst ho
    have := h e' he' hb
    simp only [List.nil_append, List.mem_map] at this
    obtain ⟨y, hy, hye⟩ := this
    exact ⟨toD y, List.mem_map.2 ⟨y, hy, rfl⟩, hye⟩
  · intro i hi
    have := List.all_eq_true.1 h4 i (by simpa using hi)
    simp only [List.contains_eq_mem, decide_eq_true_eq, List.mem_map] at this
    obtain ⟨x, hx, rfl⟩ := this
    exact ⟨toD x, List.mem_map.2 ⟨x, hx, rfl⟩, rfl⟩
  · have := qbj _ h5
    simpa [List.map_map, Function.comp_def, toD] using this
  · intro i oo ho j hj
    have hlt : i < ops.size := by
      rcases Nat.lt_or_ge i ops.size with g | g
      · exact g
      · rw [Array.getElem?_eq_none g] at ho; cases ho
    have := List.all_eq_true.1 h1 i (by simpa using hlt)
    rw [ho] at this
    simp only [Bool.and_eq_true, beq_iff_eq] at this
    obtain ⟨t1, t2⟩ := this
    have hj' : ((anc ops).getD i 0).testBit j = true := hj
    rw [t2] at hj'
    rcases qhz _ _ _ hj' with h | ⟨e, he, hb, hcase⟩
    · simp at h
    · refine ⟨e, he, hb, ?_, hcase⟩
      have := List.all_eq_true.1 t1 e he
      simpa [hb] using this
theorem aw_dops {os : List DOper} {keep : List Nat} {Q : AExit → T → Heap → Prop} {t : T} {h : Heap} (p : runD E os (fun t h => Q .normal (qhg keep t) h) t h h []) : AW E N (.dops os keep) Q t h := by
  intro H c hc a w ht hs
  cases c <;> simp only [qa6] at hc <;> try (cases hc; done)
  case region id ops draw =>
    split at hc
    · cases hc
    · rename_i x keep' order hfind
      split at hc
      · rename_i hdraw
        split at hc
        · rename_i hm
          split at hc
          · rename_i l hl
            split at hc
            · rename_i hok
              simp only [Option.some.injEq, ACode.dops.injEq] at hc
              obtain ⟨hos, rfl⟩ := hc
              have hos' : os = l.map toD := by rw [← hos]; rfl
              subst hos'
              subst hdraw
              have ok := qjq (E := E) hl hok
              refine wp_region_any hm ?_
              refine qk7 ok (K := fun t h => Q .normal (qhg keep' t) h) (h0 := h) (w0 := w) ?_ ops.size _ a _ ((l.map toD).map .op) t h h [] ?_ ?_
              · intro t' h' a' w' ht' hs' hf hk
                exact ⟨.normal, _, h', rfl, ht'.keep _, hs', hf, hk⟩
              · have hops : ∀ l : List DOper, q0a (l.map .op) = l := by
                  intro l; induction l with
                  | nil => rfl
                  | cons x l ih => simp [q0a, ih]
                have hlates : ∀ l : List DOper, q03 (l.map .op) = [] := by
                  intro l; induction l with
                  | nil => rfl
                  | cons x l ih => simp [q03, ih]
                refine ⟨qcy (Nat.zero_le _) _ _ _ _ _ (qhn _ _ _ _ _ _ p), ht, Sat.q9g (w := w) rfl hs, Sat.q9g (w := w) rfl hs, ?_, ?_, Heap.q0e _, ?_, Fr.qdm rfl rfl rfl ⟨rfl, Nat.le_succ _⟩, by simp, ?_⟩
                · rw [hlates]; exact ⟨by simp, by simp⟩
                · rw [hlates]; simp
                · rw [hops]
                  symm
                  rw [List.filter_eq_self]
                  intro o ho
                  have := (ok.comp o ho).2
                  simp [Array.getD_eq_getD_getElem?, this]
                · intro i oo _ hl'
                  simp only [Array.getD_eq_getD_getElem?, Array.getElem?_replicate] at hl'
                  split at hl' <;> simp at hl'
              · have hops : ∀ l : List DOper, (q0a (l.map .op)).length = l.length := by
                  intro l; induction l with
                  | nil => rfl
                  | cons x l ih => simp [q0a, ih]
                rw [hops, List.length_map]
                unfold qjg at hok
                simp only [Bool.and_eq_true, decide_eq_true_eq] at hok
                exact hok.2
            · cases hc
          · cases hc
        · cases hc
      · simp only [Option.map_eq_some_iff] at hc
        obtain ⟨_, _, hc⟩ := hc
        cases hc
  all_goals (repeat' (first | (cases hc; done) | (split at hc)))
  all_goals (simp only [Option.map_eq_some_iff] at hc; obtain ⟨_, _, hc⟩ := hc; cases hc)
end
end Go.Bb
