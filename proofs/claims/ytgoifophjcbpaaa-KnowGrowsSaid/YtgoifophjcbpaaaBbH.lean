/- What an operation tells that changes nothing: all of them in one word. -/
import Derived.Test.YtgoifophjcbpaaaBbG
import Derived.Laws.Externs
import Derived.KernelRfl
namespace Go.Bb
set_option linter.unusedSimpArgs false
set_option linter.unusedVariables false

section
variable {P : Program} {ψ : FuncId → Option Nat} {fid : Nat → Option FuncId} {ρ : Opd → Option Value} {ev : Operand → Value} {h : Heap} {w : World}

/-- The operations that change nothing and make nothing. -/
def AOp.quiet : AOp → Bool
  | .alloc _ | .box _ | .bslice .. | .mslice .. | .mmap | .store .. | .call .. | .callv .. | .append .. | .appendZ .. | .copy .. | .mupd .. | .mdel .. | .bytesOf _ | .mark _ | .bad => false
  | _ => true

theorem find_struct_places {fs : Array Field} {i : Nat} : (match fs[i]? with | some f => (sizeT P f.type).map fun s => (f.offset, s) | none => none) = (fs[i]?).bind fun f => (sizeT P f.type).map fun s => (f.offset, s) := by
  cases fs[i]? <;> rfl

theorem mapM_places (fs : Array Field) (hall : fs.toList.all (fun f => (sizeT P f.type).isSome) = true) (w : World) :
    ∃ pl : Array (Nat × Nat), (fs.mapM (fun f => do pure (f.offset, ← sizeOf f.type)) : Sem (Array (Nat × Nat))).run P w = .ok pl w ∧ ∀ i : Nat, pl[i]? = (fs[i]?).bind fun f => (sizeT P f.type).map fun s => (f.offset, s) := by
  obtain ⟨l⟩ := fs
  simp only at hall
  have key : ∀ l : List Field, l.all (fun f => (sizeT P f.type).isSome) = true → ∃ pl : List (Nat × Nat), (l.mapM (fun f => do pure (f.offset, ← sizeOf f.type)) : Sem (List (Nat × Nat))).run P w = .ok pl w ∧ ∀ i : Nat, pl[i]? = (l[i]?).bind fun f => (sizeT P f.type).map fun s => (f.offset, s) := by
    intro l
    induction l with
    | nil => intro _; exact ⟨[], by simp, fun i => by simp⟩
    | cons f l ih =>
      intro hl
      simp only [List.all_cons, Bool.and_eq_true] at hl
      obtain ⟨pl, hp, hi⟩ := ih hl.2
      obtain ⟨n, hn⟩ := Option.isSome_iff_exists.1 hl.1
      refine ⟨(f.offset, n) :: pl, ?_, ?_⟩
      · simp only [List.mapM_cons, Sem.run_bind, run_sizeOf' hn, Result.andThen_ok, Sem.run_pure, hp]
      · intro i
        cases i with
        | zero => simp [hn]
        | succ i => simpa using hi i
  obtain ⟨pl, hp, hi⟩ := key l hall
  refine ⟨pl.toArray, ?_, fun i => by simpa using hi i⟩
  rw [List.mapM_toArray]
  simp only [Sem.run_map, hp, Result.andThen_ok]

theorem run_extern {f : FuncId} {fn : Func} {args : Array Value} {e : Array Value → Sem Value} {v : Value} (hf : P.funcs[f]? = some fn) (hb : fn.body.isNone = true) (hn : (fn.name == "runtime.NumGoroutine") = false)
    (h1 : Extern.findNext fn = none) (h2 : Extern.find fn = some e) (h3 : (e args).run P w = .ok v w) : (callFunc f args).run P w = .ok (.value v) w := by
  simp only [callFunc, Sem.run_bind, run_program, Result.andThen_ok, hf, hn, Bool.false_eq_true, if_false, hb, if_true, h1, h2]
  simp [h3]

theorem run_prim {f : FuncId} {fn : Func} {p : Prim} {xs : List Value} {v : Value} (hf : P.funcs[f]? = some fn) (hb : fn.body.isNone = true) (hp : primOf fn.name = some p)
    (ho : (Extern.allNextRows.lookup fn.origin).isNone = true) (hv : primV p xs = some v) : (callFunc f xs.toArray).run P w = .ok (.value v) w := by
  have hno : Extern.allNextRows.lookup fn.origin = none := by simpa using ho
  unfold primOf at hp
  split at hp
  · rename_i hn
    simp only [Option.some.injEq] at hp; subst hp
    have h1 : Extern.findNext fn = none := by
      unfold Extern.findNext
      have : Extern.allNextRows.lookup fn.name = none := by rw [hn]; kernel_rfl
      simp only [this, hno]; rfl
    have h2 : Extern.find fn = some add64Entry := by
      unfold Extern.find
      have e1 : Extern.allGenericRows.lookup fn.name = none := by rw [hn]; kernel_rfl
      have e2 : Extern.allTypedRows.lookup fn.name = none := by rw [hn]; kernel_rfl
      have e3 : Extern.allRows.lookup fn.name = some add64Entry := by rw [hn]; kernel_rfl
      simp only [e1, e2, e3]; rfl
    rw [run_callFunc_extern hf (by rw [hn]; decide) hb h1 h2]
    unfold primV at hv
    split at hv
    · split at hv
      · rename_i hc
        simp only [Option.some.injEq] at hv; subst hv
        rcases hc with rfl | rfl <;> rfl
      · cases hv
    · exact nomatch ‹Prim.add64 = Prim.sub64›
    · cases hv
  · split at hp
    · rename_i hn0 hn
      simp only [Option.some.injEq] at hp; subst hp
      let sub64Entry : Array Value → Sem Value := fun args => do
        let (x, y, b) ← Extern.MathBitsCarry.three "Sub64" args
        pure (Extern.MathBitsCarry.pair ((x + Extern.MathBitsCarry.m64 - y - b) % Extern.MathBitsCarry.m64) (if x < y + b then 1 else 0))
      have h1 : Extern.findNext fn = none := by
        unfold Extern.findNext
        have : Extern.allNextRows.lookup fn.name = none := by rw [hn]; kernel_rfl
        simp only [this, hno]; rfl
      have h2 : Extern.find fn = some sub64Entry := by
        unfold Extern.find
        have e1 : Extern.allGenericRows.lookup fn.name = none := by rw [hn]; kernel_rfl
        have e2 : Extern.allTypedRows.lookup fn.name = none := by rw [hn]; kernel_rfl
        have e3 : Extern.allRows.lookup fn.name = some sub64Entry := by rw [hn]; kernel_rfl
        simp only [e1, e2, e3]; rfl
      rw [run_callFunc_extern hf (by rw [hn]; decide) hb h1 h2]
      unfold primV at hv
      split at hv
      · exact nomatch ‹Prim.sub64 = Prim.add64›
      · split at hv
        · rename_i hc
          simp only [Option.some.injEq] at hv; subst hv
          rcases hc with rfl | rfl <;> rfl
        · cases hv
      · cases hv
    · cases hp

theorem conL_one {l : List Operand} {x : Opd} (e : conL ψ l = some [x]) : ∃ x0, l = [x0] ∧ conO ψ x0 = some x := by
  cases l with
  | nil => simp [conL] at e
  | cons a l =>
    simp only [conL] at e
    split at e
    · rename_i y ys hy hys
      simp only [Option.some.injEq, List.cons.injEq] at e
      obtain ⟨rfl, rfl⟩ := e
      cases l with
      | nil => exact ⟨a, rfl, hy⟩
      | cons b l =>
        simp only [conL] at hys
        split at hys <;> simp at hys
    · cases e

theorem conL_two {l : List Operand} {x y : Opd} (e : conL ψ l = some [x, y]) : ∃ x0 y0, l = [x0, y0] ∧ conO ψ x0 = some x ∧ conO ψ y0 = some y := by
  cases l with
  | nil => simp [conL] at e
  | cons a l =>
    simp only [conL] at e
    split at e
    · rename_i z zs hz hzs
      simp only [Option.some.injEq, List.cons.injEq] at e
      obtain ⟨rfl, rfl⟩ := e
      obtain ⟨b, rfl, hb⟩ := conL_one hzs
      exact ⟨a, b, rfl, hz, hb⟩
    · cases e

theorem quiet_sound (hs : Sat h w) (ha : Agree ψ ρ ev) (hfid : ∀ f n, ψ f = some n → fid n = some f) (hevf : ∀ f, ev (.func f) = .func (.func f) #[] #[]) {o : Oper} {ao : AOp} {v : Value} (hc : compOp P ψ o.op = some ao) (hv : pureV fid ρ h ao = some v) : (execOp ev o).run P w = .ok (.value v) w := by
  unfold compOp at hc
  unfold execOp
  cases hop : o.op <;> rw [hop] at hc <;> simp only at hc ⊢
  case move x =>
    simp only [Option.map_eq_some_iff] at hc
    obtain ⟨y, hy, rfl⟩ := hc
    simp only [pureV] at hv
    simp [ha x y v hy hv]
  case assign x =>
    simp only [Option.map_eq_some_iff] at hc
    obtain ⟨y, hy, rfl⟩ := hc
    simp only [pureV] at hv
    simp [ha x y v hy hv]
  case pick c a b =>
    split at hc
    · rename_i c' a' b' h1 h2 h3
      simp only [Option.some.injEq] at hc; subst hc
      simp only [pureV] at hv
      split at hv
      · rename_i q hq
        rw [ha c c' _ h1 hq]
        cases q
        · simp only [Bool.false_eq_true, if_false] at hv; simp [asBool, ha b b' _ h3 hv]
        · simp only [if_true] at hv; simp [asBool, ha a a' _ h2 hv]
      · cases hv
    · cases hc
  case load t x =>
    split at hc
    · rename_i k x' hk hx
      simp only [Option.some.injEq] at hc; subst hc
      simp only [pureV] at hv
      split at hv
      · rename_i a hxa
        have := ha x x' _ hx hxa
        rw [this]
        refine tells_of ?_
        simp only [Instr.loadAt, Instr.sureAddr, Sem.run_bind, Sem.run_pure, Result.andThen_ok]
        exact run_loadVar' hs hk hv
      · cases hv
    · cases hc
  case nilCheck x =>
    simp only [Option.map_eq_some_iff] at hc
    obtain ⟨y, hy, rfl⟩ := hc
    simp only [pureV] at hv
    split at hv
    · rename_i a hx
      simp only [Option.some.injEq] at hv; subst hv
      rw [ha x y _ hy hx]; rfl
    · rename_i f a b hx
      simp only [Option.some.injEq] at hv; subst hv
      rw [ha x y _ hy hx]; rfl
    · cases hv
  case binOp op t x y yt =>
    split at hc
    · rename_i x' y' hx hy
      refine tells_of ?_
      by_cases he : op = .eql
      · subst he
        exact eqOp_sound (ne := false) hc (fun v hv => ha x x' v hx hv) (fun v hv => ha y y' v hy hv) hv
      · by_cases hn : op = .neq
        · subst hn
          exact eqOp_sound (ne := true) hc (fun v hv => ha x x' v hx hv) (fun v hv => ha y y' v hy hv) hv
        · have hao : ao = .bin op x' y' := by
            cases op <;> simp_all
          subst hao
          simp only [pureV] at hv
          split at hv
          · rename_i a b h1 h2
            rw [ha x x' _ hx h1, ha y y' _ hy h2]
            exact binV_sound he hn hv
          · cases hv
    · cases hc
  case unOp op t x =>
    simp only [Option.map_eq_some_iff] at hc
    obtain ⟨y, hy, rfl⟩ := hc
    simp only [pureV] at hv
    split at hv
    · rename_i a hx
      rw [ha x y _ hy hx]
      refine tells_of ?_
      unfold unV at hv
      split at hv <;> (try (cases hv; done)) <;> simp only [Option.some.injEq] at hv <;> subst hv <;> rfl
    · cases hv
  case convert s d x =>
    refine tells_of ?_
    split at hc
    · rename_i x' ks kd hx h1 h2
      simp only [Option.some.injEq] at hc; subst hc
      simp only [pureV] at hv
      split at hv
      · rename_i k n hxn
        simp only [Option.some.injEq] at hv; subst hv
        rw [ha x x' _ hx hxn]
        simp [convert, run_underlying h1, run_underlying h2, Conv.intToInt]
      · cases hv
    · rename_i x' hx h1 h2
      simp only [Option.some.injEq] at hc; subst hc
      simp only [pureV] at hv
      split at hv
      · rename_i s hxn
        simp only [Option.some.injEq] at hv; subst hv
        rw [ha x x' _ hx hxn]
        simp [convert, run_underlying h1, run_underlying h2]
      · cases hv
    · rename_i x' e hx h1 h2
      split at hc
      · rename_i h3
        simp only [Option.some.injEq] at hc; subst hc
        simp only [pureV] at hv
        split at hv
        · rename_i l c hxn
          simp only [Option.some.injEq] at hv; subst hv
          rw [ha x x' _ hx hxn]
          simp [convert, run_underlying h1, run_underlying h2, run_underlying h3, Conv.bytesToString]
        · rename_i a n c hxn
          split at hv
          · rename_i l hl
            simp only [Option.map_eq_some_iff] at hv
            obtain ⟨bs, hb, rfl⟩ := hv
            rw [ha x x' _ hx hxn]
            simp only [convert, Sem.run_bind, run_underlying h1, run_underlying h2, run_underlying h3, Result.andThen_ok]
            exact bts l bs a n c hs hl hb
          · cases hv
        · cases hv
      · cases hc
    · rename_i x' e hx h1 h2
      split at hc
      · simp only [Option.some.injEq] at hc; subst hc
        simp [pureV] at hv
      · cases hc
    · rename_i x' e1 e hx h1 h2
      split at hc
      · split at hc
        · simp only [Option.some.injEq] at hc; subst hc
          simp [pureV] at hv
        · cases hc
      · cases hc
    · cases hc
  case sliceToArrayPointer t x =>
    refine tells_of ?_
    split at hc
    · rename_i x' n e hx h1
      simp only [Option.some.injEq] at hc; subst hc
      simp only [pureV] at hv
      split at hv
      · rename_i a len c hxn
        split at hv
        · cases hv
        · rename_i hlt
          simp only [Option.some.injEq] at hv; subst hv
          rw [ha x x' _ hx hxn]
          simp [Instr.arrayAt, run_underlying h1, hlt]
      · cases hv
    · cases hc
  case makeFunc fn first captured =>
    refine tells_of ?_
    cases fn <;> simp only at hc <;> try (cases hc; done)
    rename_i f
    split at hc
    · rename_i n a b hn h1 h2
      simp only [Option.some.injEq] at hc; subst hc
      simp only [pureV] at hv
      split at hv
      · rename_i f' va vb hf' hva hvb
        simp only [Option.some.injEq] at hv; subst hv
        have := hfid f n hn
        rw [this] at hf'
        simp only [Option.some.injEq] at hf'; subst hf'
        have e1 := conL_ev ha h1 hva
        have e2 := conL_ev ha h2 hvb
        simp only [Instr.makeFunc, Sem.run_pure]
        congr 2
        · apply Array.ext'; simpa using e1
        · apply Array.ext'; simpa using e2
      · cases hv
    · cases hc
  case extract x i =>
    refine tells_of ?_
    simp only [Option.map_eq_some_iff] at hc
    obtain ⟨y, hy, rfl⟩ := hc
    simp only [pureV] at hv
    split at hv
    · rename_i vs hx
      rw [ha x y _ hy hx]
      have : vs[i]? = some v := by simpa using hv
      simp [Instr.extract, this]
    · cases hv
  case fieldAddr s x f =>
    refine tells_of ?_
    split at hc
    · rename_i x' fs hx h1
      split at hc
      · rename_i fd hf
        split at hc
        · rename_i sz hsz
          simp only [Option.some.injEq] at hc; subst hc
          simp only [pureV] at hv
          split at hv
          · rename_i a hxa
            split at hv
            · rename_i hsp
              simp only [Option.some.injEq] at hv; subst hv
              rw [ha x x' _ hx hxa]
              simp only [Instr.fieldAt, Sem.run_bind, run_underlying h1, Result.andThen_ok, hf, Instr.sureAddr, Sem.run_pure, fieldPlace, run_sizeOf' hsz]
              simp only [Sem.run_ite, Nat.add_eq_zero_iff, Nat.one_ne_zero, and_false, if_false, Sem.run_pure, Result.andThen_ok]
              congr 3
              obtain ⟨b, o, sp⟩ := a
              simp only at hsp; subst hsp
              unfold Addr.add
              split <;> simp_all
            · cases hv
          · cases hv
        · cases hc
      · cases hc
    · cases hc
  case field t x f =>
    refine tells_of ?_
    split at hc
    · rename_i x' fs hx h1
      split at hc
      · rename_i fd hf
        simp only [Option.map_eq_some_iff] at hc
        obtain ⟨k, hk, rfl⟩ := hc
        simp only [pureV] at hv
        split at hv
        · rename_i cs hxa
          rw [ha x x' _ hx hxa]
          simp only [Instr.field, Sem.run_bind, run_underlying h1, Result.andThen_ok, hf, asAgg, Sem.run_pure]
          exact run_part' hk hv
        · cases hv
      · cases hc
    · cases hc
  case indexAddr t x i =>
    refine tells_of ?_
    have place : ∀ (a : Addr) (k : Nat), a.spot = none → a.add k = ⟨a.block, a.off + k, none⟩ := by
      intro a k hsp
      obtain ⟨b, o, sp⟩ := a
      simp only at hsp; subst hsp
      unfold Addr.add
      split <;> simp_all
    split at hc
    · rename_i x' i' n e hx hi h1
      simp only [Option.map_eq_some_iff] at hc
      obtain ⟨s, hsz, rfl⟩ := hc
      simp only [pureV] at hv
      split at hv
      · rename_i a k j hxa hij
        split at hv
        · rename_i hcond
          simp only [Option.some.injEq] at hv; subst hv
          rw [ha x x' _ hx hxa, ha i i' _ hi hij]
          simp only [Instr.indexAt, asIntOf, Sem.run_bind, Sem.run_pure, run_underlying h1, Result.andThen_ok, Instr.sureAddr]
          simp only [Sem.run_ite, hcond.2.1, hcond.2.2, and_self, if_true, Sem.run_bind, run_sizeOf' hsz, Result.andThen_ok, Sem.run_pure, place a _ hcond.1]
        · cases hv
      · cases hv
    · rename_i x' i' e hx hi h1
      simp only [Option.map_eq_some_iff] at hc
      obtain ⟨s, hsz, rfl⟩ := hc
      simp only [pureV] at hv
      split at hv
      · rename_i a n c k j hxa hij
        split at hv
        · rename_i hcond
          simp only [Option.some.injEq] at hv; subst hv
          rw [ha x x' _ hx hxa, ha i i' _ hi hij]
          simp only [Instr.indexAt, asIntOf, Sem.run_bind, Sem.run_pure, run_underlying h1, Result.andThen_ok]
          simp only [Sem.run_ite, hcond.2.1, hcond.2.2, and_self, if_true, Sem.run_bind, run_sizeOf' hsz, Result.andThen_ok, Sem.run_pure, place a _ hcond.1]
        · cases hv
      · cases hv
    · cases hc
  case index t x i =>
    refine tells_of ?_
    split at hc
    · rename_i x' i' n e hx hi h1
      split at hc
      · rename_i s k hsz hk
        simp only [Option.some.injEq] at hc; subst hc
        simp only [pureV] at hv
        split at hv
        · rename_i cs kk j hxa hij
          split at hv
          · rename_i hcond
            rw [ha x x' _ hx hxa, ha i i' _ hi hij]
            simp only [Instr.index, asIntOf, Sem.run_bind, Sem.run_pure, run_underlying h1, Result.andThen_ok]
            simp only [Sem.run_ite, hcond, and_self, if_true, Sem.run_bind, run_sizeOf' hsz, Result.andThen_ok]
            exact run_part' hk hv
          · cases hv
        · cases hv
      · cases hc
    · rename_i x' i' hx hi h1
      simp only [Option.some.injEq] at hc; subst hc
      simp only [pureV] at hv
      split at hv
      · rename_i s kk j hxa hij
        split at hv
        · rename_i hcond
          rw [ha x x' _ hx hxa, ha i i' _ hi hij]
          simp only [Option.map_eq_some_iff] at hv
          obtain ⟨b, hb, rfl⟩ := hv
          have hlt : j.toNat < s.size := by
            rcases Nat.lt_or_ge j.toNat s.size with g | g
            · exact g
            · rw [List.getElem?_eq_none (by simpa using g)] at hb; cases hb
          have hb' : s[j.toNat]? = some b := by
            rw [getElem?_pos s j.toNat hlt]
            have : s.data.toList[j.toNat]? = some (s[j.toNat]'hlt) := by
              rw [List.getElem?_eq_getElem (by simpa using hlt)]
              simp; rfl
            rw [this] at hb; exact hb
          simp [Instr.index, asIntOf, run_underlying h1, hcond, hb']
        · cases hv
      · cases hv
    · cases hc
  case slice t x lo hi m =>
    refine tells_of ?_
    split at hc
    · rename_i x' lo' hi' hx h1 h2 h3 h4
      simp only [Option.some.injEq] at hc; subst hc
      simp only [pureV] at hv
      split at hv
      · rename_i s hxa
        split at hv
        · rename_i l hh mm hb
          simp only [Option.some.injEq] at hv; subst hv
          have hm : m = none := by
            cases m with
            | none => rfl
            | some q => simp [conOpt] at h3
          subst hm
          have := bnds_run (P := P) (w := w) ha h1 h2 (m := none) (m' := none) (by rfl) (by simpa [oOpt] using hb) false
          rw [ha x x' _ hx hxa]
          simp only [Instr.sliceAt, Sem.run_bind, run_underlying h4, Result.andThen_ok, Instr.slice, Option.map_none, Option.isSome_none, Bool.false_eq_true, if_false, Sem.run_ite, Sem.run_pure]
          simp only [Option.map_none] at this
          rw [this]; rfl
        · cases hv
      · cases hv
    · rename_i x' lo' hi' m' e hx h1 h2 h3 h4
      simp only [Option.map_eq_some_iff] at hc
      obtain ⟨s, hsz, rfl⟩ := hc
      simp only [pureV] at hv
      split at hv
      · rename_i a len cap hxa
        split at hv
        · rename_i l hh mm hb
          simp only [Option.some.injEq] at hv; subst hv
          have := bnds_run (P := P) (w := w) ha h1 h2 h3 hb true
          rw [ha x x' _ hx hxa]
          simp only [Instr.sliceAt, Sem.run_bind, run_underlying h4, Result.andThen_ok, Instr.slice, this, run_sizeOf' hsz, Sem.run_pure]
        · cases hv
      · cases hv
    · rename_i x' lo' hi' m' n e hx h1 h2 h3 h4
      simp only [Option.map_eq_some_iff] at hc
      obtain ⟨s, hsz, rfl⟩ := hc
      simp only [pureV] at hv
      split at hv
      · rename_i a hxa
        split at hv
        · rename_i l hh mm hb
          simp only [Option.some.injEq] at hv; subst hv
          have := bnds_run (P := P) (w := w) ha h1 h2 h3 hb false
          rw [ha x x' _ hx hxa]
          simp only [Instr.sliceAt, Sem.run_bind, run_underlying h4, Result.andThen_ok, Instr.sureAddr, this, run_sizeOf' hsz, Sem.run_pure]
        · cases hv
      · cases hv
    · cases hc
  case build t parts =>
    refine tells_of ?_
    have hparts : (parts.map fun (i, x) => (i, ev x)).toList = parts.toList.map fun (i, x) => (i, ev x) := by simp
    split at hc
    · rename_i fs z h1 hz
      simp only [Option.map_eq_some_iff] at hc
      obtain ⟨ps, hps, hao⟩ := hc
      split at hao
      · rename_i hall
        subst hao
        simp only [pureV] at hv
        split at hv
        · rename_i vs hvs
          simp only [Option.map_eq_some_iff] at hv
          obtain ⟨l, hl, rfl⟩ := hv
          obtain ⟨zz, hzz, rfl⟩ : ∃ zz : Value, (zeroValue t).run P w = .ok zz w ∧ zz.cells.toList = z := by
            unfold zeroT at hz
            simp only [Option.map_eq_some_iff, Option.bind_eq_some_iff] at hz
            obtain ⟨zz, ⟨i, hi, hzi⟩, rfl⟩ := hz
            exact ⟨zz, by simp [zeroValue, run_typeInfo' hi, hzi], rfl⟩
          obtain ⟨pl, hpl, hplaces⟩ := mapM_places (P := P) fs hall w
          have hfun : (fun (i : Nat) => match (fs[i]? : Option Field) with | some f => (sizeT P f.type).map fun s => (f.offset, s) | none => none) = (pl[·]?) := by
            funext i; rw [find_struct_places, hplaces i]
          have hps' : conParts ψ (pl[·]?) parts.toList = some ps := by rw [← hfun]; exact hps
          have := conParts_ev ha hps' hvs hl
          simp only [Instr.build, Sem.run_bind, hzz, Result.andThen_ok, run_underlying h1, hpl, hparts]
          simp only [Array.toArray_toList] at this
          rw [this]; try rfl
        · cases hv
      · subst hao; simp [pureV] at hv
    · rename_i n e z h1 hz
      split at hc
      · rename_i s hsz
        simp only [Option.map_eq_some_iff] at hc
        obtain ⟨ps, hps, rfl⟩ := hc
        simp only [pureV] at hv
        split at hv
        · rename_i vs hvs
          simp only [Option.map_eq_some_iff] at hv
          obtain ⟨l, hl, rfl⟩ := hv
          obtain ⟨zz, hzz, rfl⟩ : ∃ zz : Value, (zeroValue t).run P w = .ok zz w ∧ zz.cells.toList = z := by
            unfold zeroT at hz
            simp only [Option.map_eq_some_iff, Option.bind_eq_some_iff] at hz
            obtain ⟨zz, ⟨i, hi, hzi⟩, rfl⟩ := hz
            exact ⟨zz, by simp [zeroValue, run_typeInfo' hi, hzi], rfl⟩
          have := conParts_ev ha hps hvs hl
          simp only [Instr.build, Sem.run_bind, hzz, Result.andThen_ok, run_underlying h1, run_sizeOf' hsz, hparts]
          simp only [Array.toArray_toList] at this
          rw [this]; try rfl
        · cases hv
      · cases hc
    · cases hc
  case lookup t m k ok =>
    refine tells_of ?_
    split at hc
    · rename_i m' k' kt e hm hk h1
      split at hc
      · rename_i kt' z hkt hz
        simp only [Option.some.injEq] at hc; subst hc
        simp only [pureV] at hv
        have hzz : (zeroValue e).run P w = .ok z w := by
          simp only [Option.bind_eq_some_iff] at hz
          obtain ⟨i, hi, hzi⟩ := hz
          simp [zeroValue, run_typeInfo' hi, hzi]
        split at hv
        · rename_i kv hmv hkv
          simp only [Option.map_eq_some_iff] at hv
          obtain ⟨u, hu, rfl⟩ := hv
          rw [ha m m' _ hm hmv, ha k k' _ hk hkv]
          have hck := run_checkKey_of hkt hu true w
          have hfk := run_findKey_of hkt (k := kv) (es := []) (r := none) (by simp [findV]) w
          simp only [Instr.lookup, Sem.run_bind, run_underlying h1, Result.andThen_ok, Sem.run_pure, Array.isEmpty_empty, hck, hfk, hzz]
        · rename_i r kv hmv hkv
          split at hv
          · rename_i es c hes
            rw [ha m m' _ hm hmv, ha k k' _ hk hkv]
            split at hv
            · rename_i u i vv hu hfv
              simp only [Option.some.injEq] at hv; subst hv
              have hck := run_checkKey_of hkt hu es.isEmpty w
              have hfk := run_findKey_of hkt hfv w
              simp only [Instr.lookup, Sem.run_bind, run_underlying h1, Result.andThen_ok, Sem.run_pure, run_getMap hs hes, hck, hfk]
            · rename_i u hu hfv
              simp only [Option.some.injEq] at hv; subst hv
              have hck := run_checkKey_of hkt hu es.isEmpty w
              have hfk := run_findKey_of hkt hfv w
              simp only [Instr.lookup, Sem.run_bind, run_underlying h1, Result.andThen_ok, Sem.run_pure, run_getMap hs hes, hck, hfk, hzz]
            · cases hv
          · cases hv
        · cases hv
      · cases hc
    · cases hc
  case call c =>
    obtain ⟨callee, args, argTypes⟩ := c
    unfold callOp at hc
    simp only at hc
    cases callee with
    | invoke r m => simp at hc
    | value f =>
      cases f <;> simp only at hc
      case func f =>
        split at hc
        · cases hc
        · rename_i fn hf
          split at hc
          · rename_i hb
            split at hc
            · rename_i p xs hp hxs
              split at hc
              · rename_i ho
                simp only [Option.some.injEq] at hc; subst hc
                simp only [pureV] at hv
                split at hv
                · rename_i vs hvs
                  have hargs := conL_ev ha hxs hvs
                  have := run_prim (P := P) (w := w) hf hb hp ho hv
                  simp only [Sem.run_bind, resolve, hevf, Deferred.ofValue, Sem.run_pure, Result.andThen_ok, invoke]
                  have h3 : args.map ev = vs.toArray := Array.ext' (by simpa using hargs)
                  simpa [h3] using this
                · cases hv
              · cases hc
            · cases hc
          · split at hc
            · simp only [Option.some.injEq] at hc; subst hc; simp [pureV] at hv
            · cases hc
      all_goals
        split at hc
        · simp only [Option.some.injEq] at hc; subst hc; simp [pureV] at hv
        · cases hc
    | builtin b =>
      simp only at hc
      have hres : ∀ (b : Builtin), ∃ cs, (do let d ← resolve ev { callee := .builtin b, args := args, argTypes := argTypes } o.type; invoke d.target d.args : Sem Next) = builtin b argTypes o.type cs (args.map ev) := by
        intro b; exact ⟨_, rfl⟩
      split at hc
      · rename_i x t ts h1 h2
        obtain ⟨cs, hr⟩ := hres .len
        rw [hr]
        obtain ⟨x0, hx0, hx⟩ := conL_one h1
        have hA : args = #[x0] := by apply Array.ext'; simpa using hx0
        have hT : argTypes[0]? = some t := by have := congrArg (·[0]?) h2; simpa using this
        subst hA
        refine tells_of ?_
        simp only [Builtin.len_, hT]
        split at hc <;> (try (cases hc; done))
        · rename_i hu
          simp only [Option.some.injEq] at hc; subst hc
          simp only [pureV] at hv
          split at hv
          · rename_i s hs'
            simp only [Option.some.injEq] at hv; subst hv
            simp [run_underlying hu, ha x0 x _ hx hs', goInt]
          · cases hv
        · rename_i n e hu
          simp only [Option.some.injEq] at hc; subst hc
          simp only [pureV, Option.some.injEq] at hv; subst hv
          simp [run_underlying hu, goInt]
        · rename_i a hu
          split at hc
          · rename_i n e hu2
            simp only [Option.some.injEq] at hc; subst hc
            simp only [pureV, Option.some.injEq] at hv; subst hv
            simp [run_underlying hu, run_underlying hu2, goInt]
          · cases hc
        · rename_i e hu
          simp only [Option.some.injEq] at hc; subst hc
          simp only [pureV] at hv
          split at hv
          · rename_i a n c hs'
            simp only [Option.some.injEq] at hv; subst hv
            simp [run_underlying hu, ha x0 x _ hx hs', goInt]
          · cases hv
        · rename_i k e hu
          simp only [Option.some.injEq] at hc; subst hc
          simp only [pureV] at hv
          split at hv
          · rename_i hs'
            simp only [Option.some.injEq] at hv; subst hv
            simp [run_underlying hu, ha x0 x _ hx hs', goInt]
          · rename_i r hs'
            simp only [Option.map_eq_some_iff] at hv
            obtain ⟨⟨es, c⟩, hes, rfl⟩ := hv
            simp [run_underlying hu, ha x0 x _ hx hs', goInt, run_getMap hs hes]
          · cases hv
      · rename_i x t ts h1 h2
        obtain ⟨cs, hr⟩ := hres .cap
        rw [hr]
        obtain ⟨x0, hx0, hx⟩ := conL_one h1
        have hA : args = #[x0] := by apply Array.ext'; simpa using hx0
        have hT : argTypes[0]? = some t := by have := congrArg (·[0]?) h2; simpa using this
        subst hA
        refine tells_of ?_
        simp only [Builtin.cap_, hT]
        split at hc <;> (try (cases hc; done))
        rename_i e hu
        simp only [Option.some.injEq] at hc; subst hc
        simp only [pureV] at hv
        split at hv
        · rename_i a n c hs'
          simp only [Option.some.injEq] at hv; subst hv
          simp [run_underlying hu, ha x0 x _ hx hs', goInt]
        · cases hv
      · rename_i x y h1
        obtain ⟨cs, hr⟩ := hres .min
        rw [hr]
        obtain ⟨x0, y0, hx0, hx, hy⟩ := conL_two h1
        have hA : args = #[x0, y0] := by apply Array.ext'; simpa using hx0
        subst hA
        refine tells_of ?_
        simp only [Option.some.injEq] at hc; subst hc
        simp only [pureV] at hv
        split at hv
        · rename_i k a k2 b hxa hyb
          simp only [Option.some.injEq] at hv; subst hv
          simp [Builtin.min_, ha x0 x _ hx hxa, ha y0 y _ hy hyb, Builtin.min2]
        · cases hv
      · rename_i x y h1
        obtain ⟨cs, hr⟩ := hres .max
        rw [hr]
        obtain ⟨x0, y0, hx0, hx, hy⟩ := conL_two h1
        have hA : args = #[x0, y0] := by apply Array.ext'; simpa using hx0
        subst hA
        refine tells_of ?_
        simp only [Option.some.injEq] at hc; subst hc
        simp only [pureV] at hv
        split at hv
        · rename_i k a k2 b hxa hyb
          simp only [Option.some.injEq] at hv; subst hv
          simp [Builtin.max_, ha x0 x _ hx hxa, ha y0 y _ hy hyb, Builtin.max2]
        · cases hv
      all_goals
        exfalso
        repeat' (first | (cases hc; done) | (split at hc))
        all_goals first
          | (simp only [Option.some.injEq] at hc; subst hc; simp [pureV] at hv; done)
          | (simp only [Option.map_eq_some_iff] at hc; obtain ⟨_, _, rfl⟩ := hc; simp [pureV] at hv; done)
  all_goals
    exfalso
    repeat' (first | (cases hc; done) | (split at hc))
    all_goals first
      | (simp only [Option.some.injEq] at hc; subst hc; simp [pureV] at hv; done)
      | (simp only [Option.map_eq_some_iff] at hc; obtain ⟨_, _, rfl⟩ := hc; simp [pureV] at hv; done)

end
end Go.Bb
