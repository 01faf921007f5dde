/- One operation: what the short form asks gives the model's step. -/
import Derived.Test.YtgoifophjcbpaaaBbL
namespace Go.Bb
set_option linter.unusedSimpArgs false
set_option linter.unusedVariables false

section
variable {E : Env} {ρ : Opd → Option Value} {h : Heap} {w : World} {K : Value → Heap → Prop} {a : Act}

theorem wp_value {P : Program} {o : Oper} {v : Value} {w' : World} {next : Act → World → Prop} {Q : Exit → Act → World → Prop} (hr : (execOp a.eval o).run P w = .ok (.value v) w') (hn : next (a.put o.dst v) w') : o.wp P a w next Q := by
  unfold Oper.wp; rw [hr]; exact hn

theorem wp_skipped {P : Program} {o : Oper} {w' : World} {next : Act → World → Prop} {Q : Exit → Act → World → Prop} (hr : (execOp a.eval o).run P w = .ok .skip w') (hn : next (a.put o.dst undef) w') : o.wp P a w next Q := by
  unfold Oper.wp; rw [hr]; exact hn

theorem wp_entered {P : Program} {o : Oper} {f : FuncId} {args : Array Value} {next : Act → World → Prop} {Q : Exit → Act → World → Prop} {R : Ending → World → Prop} (hr : (execOp a.eval o).run P w = .ok (.enter f args) w)
    (hcl : Calls P f args w R) (hn : ∀ e w', R e w' → ∃ v, e = .returned v ∧ next (a.put o.dst v) w') : o.wp P a w next Q := by
  unfold Oper.wp; rw [hr]
  refine hcl.mono fun e w' hR => ?_
  obtain ⟨v, rfl, h⟩ := hn e w' hR
  exact h

theorem run_callFunc_enter (E : Env) {n : Nat} {f : FuncId} (hf : E.fid n = some f) (args : Array Value) (w : World) : (callFunc f args).run E.P w = .ok (.enter f args) w := by
  obtain ⟨fn, h1, h2, h3⟩ := E.body_ok n f hf
  have h4 : fn.name ≠ "runtime.NumGoroutine" := by simpa using h3
  have h5 : fn.body ≠ none := by
    intro hb; rw [hb] at h2; cases h2
  simp [callFunc, h1, h4, h5]

theorem wp_out {o : Oper} {s : Sem Value} (he : execOp a.eval o = (do pure (Next.value (← s)))) (ho : Out E.P s h w K) {next : Act → World → Prop} {Q : Exit → Act → World → Prop}
    (hn : ∀ v h' w', Sat h' w' → Fr h h' w w' → K v h' → next (a.put o.dst v) w') : o.wp E.P a w next Q := by
  obtain ⟨v, h', w', hr, hs', hf, hk⟩ := ho
  exact wp_value (v := v) (w' := w') (by rw [he]; simp [hr]) (hn v h' w' hs' hf hk)

theorem exec_builtin (ρ : Operand → Value) (o : Oper) (b : Builtin) (args : Array Operand) (argTypes : Array TypeId) (ho : o.op = .call { callee := .builtin b, args := args, argTypes := argTypes }) :
    ∃ cs, execOp ρ o = builtin b argTypes o.type cs (args.map ρ) := by
  unfold execOp
  rw [ho]
  exact ⟨_, rfl⟩

theorem mark_sound {P : Program} (hs : Sat h w) {b : Addr} {st : Nat} {vs : List Value} {sz : Nat} (hb : h b.block = some (.own st vs sz)) :
    ∃ w', (markStringish b).run P w = .ok () w' ∧ Sat h w' ∧ Fr h h w w' := by
  obtain ⟨carr, e, fr, ho, hsz, hle, hc, hf⟩ := hs _ _ hb
  have hlt := hs.lt hb
  have hshape : w.shape? b.block = some (e, carr.size) := by simp [World.shape?, ho]
  have hheap : ∀ k, (w.freeze ⟨b.block, carr.size, none⟩ 1).heap[k]? = if k = b.block then some (.cells carr e (if fr.1 == fr.2 then (carr.size, carr.size + 1) else (min fr.1 carr.size, max fr.2 (carr.size + 1)))) else w.heap[k]? := by
    intro k
    simp only [World.freeze, Nat.one_ne_zero, if_false, Array.getElem?_modify]
    by_cases hk : k = b.block
    · subst hk; simp [ho]
    · rw [if_neg (Ne.symm hk), if_neg hk]
  refine ⟨w.freeze ⟨b.block, carr.size, none⟩ 1, ?_, ?_, ?_⟩
  · simp [markStringish, hshape]
  · intro c y hy
    rw [hheap c]
    by_cases hk : c = b.block
    · subst hk
      rw [hb] at hy
      simp only [Option.some.injEq] at hy; subst hy
      rw [if_pos rfl]
      refine ⟨carr, e, _, rfl, hsz, hle, hc, ?_⟩
      split
      · right; simp; omega
      · rename_i hne
        have hne' : fr.1 ≠ fr.2 := by simpa using hne
        rcases hf with h1 | h1
        · exact absurd h1 hne'
        · right; simp; omega
    · rw [if_neg hk]; exact hs c y hy
  · refine ⟨by simp [World.freeze], by simp [World.freeze], by simp [World.freeze], by simp [World.freeze], ?_, fun _ x y => absurd x y, fun _ _ x => x⟩
    intro c hlt' hfree
    rw [hheap c, if_neg]
    intro he; subst he
    rcases hfree with h1 | ⟨o, h1⟩ <;> rw [hb] at h1 <;> cases h1

theorem mupd_sound (hs : Sat h w) (ha : Agree E.ψ ρ a.eval) {o : Oper} {ao : AOp} {t : TypeId} {m k v : Operand}
    (hc : (match conO E.ψ m, conO E.ψ k, conO E.ψ v, E.P.underlying t with | some m, some k, some v, some (.map kt _) => (keyT E.P kt).map fun kt => AOp.mupd kt m k v | _, _, _, _ => none) = some ao)
    (hK : stepW E ρ h K ao) (hex : execOp a.eval o = (do Instr.mapUpdate t (a.eval m) (a.eval k) (a.eval v); pure .skip)) {next : Act → World → Prop} {Q : Exit → Act → World → Prop}
    (hn : ∀ v h' w', Sat h' w' → Fr h h' w w' → K v h' → next (a.put o.dst v) w') : o.wp E.P a w next Q := by
  split at hc
  · rename_i m' k' v' kt e hm hk hv h1
    simp only [Option.map_eq_some_iff] at hc
    obtain ⟨kt', hkt, rfl⟩ := hc
    simp only [stepW] at hK
    split at hK
    · rename_i r kv vv hmr hkv hvv
      split at hK
      · rename_i es c hr
        have e1 := ha m m' _ hm hmr
        have e2 := ha k k' _ hk hkv
        have e3 := ha v v' _ hv hvv
        split at hK
        · rename_i uu i val hu hf
          have hck := run_checkKey_of hkt hu false w
          have hfk := run_findKey_of hkt hf w
          obtain ⟨sa, fr⟩ := sat_obj (o' := .map (es.modify i fun e => { e with key := kv, val := vv }) c) hs hr rfl
          refine wp_skipped (w' := _) ?_ (hn _ _ _ sa fr hK)
          have hgk : (Instr.keyThatStays (((es[i]?).map (·.key)).getD kv) kv).run E.P w = .ok kv w := by
            have hfound : ∀ (l : List MapEntry) (j i : Nat) (val : Value), findV kt' kv l j = some (some (i, val)) → ∃ e : MapEntry, j ≤ i ∧ l[i - j]? = some e ∧ keyV kt' kv e.key = some true := by
              intro l
              induction l with
              | nil => intro j i val hh; simp [findV] at hh
              | cons x l ih =>
                intro j i val hh
                unfold findV at hh
                split at hh
                · rename_i hkx
                  simp only [Option.some.injEq, Prod.mk.injEq] at hh
                  obtain ⟨rfl, _⟩ := hh
                  exact ⟨x, Nat.le_refl _, by simp, hkx⟩
                · obtain ⟨e, h1, h2, h3⟩ := ih _ _ _ hh
                  refine ⟨e, by omega, ?_, h3⟩
                  rw [show i - j = (i - (j + 1)) + 1 from by omega]
                  simpa using h2
                · cases hh
            obtain ⟨en, _, hen, hkv2⟩ := hfound _ _ _ _ hf
            have hen' : es[i]? = some en := by simpa using hen
            simp only [hen', Option.map_some, Option.getD_some, Instr.keyThatStays]
            rw [if_pos (sameBits_of_keyV hkv2)]; rfl
          rw [hex, e1, e2, e3]
          simp only [Instr.mapUpdate, Sem.run_bind, run_underlying h1, Result.andThen_ok, run_getMap hs (mapAt_obj hr), hck, hfk, hgk, run_setObj' hs hr, Sem.run_pure]
        · rename_i uu hu hf
          have hck := run_checkKey_of hkt hu false w
          have hfk := run_findKey_of hkt hf w
          obtain ⟨sa, fr⟩ := sat_obj (o' := .map (es.push { key := kv, val := vv, born := c }) (c + 1)) hs hr rfl
          refine wp_skipped (w' := _) ?_ (hn _ _ _ sa fr hK)
          rw [hex, e1, e2, e3]
          simp only [Instr.mapUpdate, Sem.run_bind, run_underlying h1, Result.andThen_ok, run_getMap hs (mapAt_obj hr), hck, hfk, run_setObj' hs hr, Sem.run_pure]
        · exact hK.elim
      · exact hK.elim
    · exact hK.elim
  · cases hc

theorem stepW_sound (hs : Sat h w) (ha : Agree E.ψ ρ a.eval) {o : Oper} {ao : AOp} (hc : compOp E.P E.ψ o.op = some ao) (hK : stepW E ρ h K ao) {next : Act → World → Prop} {Q : Exit → Act → World → Prop}
    (hn : ∀ v h' w', Sat h' w' → Fr h h' w w' → K v h' → next (a.put o.dst v) w') : o.wp E.P a w next Q := by
  have hc0 := hc
  unfold compOp at hc
  cases hop : o.op <;> rw [hop] at hc <;> simp only at hc
  case store t x y =>
    split at hc
    · rename_i x' y' size hx hy hz
      simp only [Option.some.injEq] at hc; subst hc
      simp only [stepW] at hK
      split at hK
      · rename_i p v hp hv
        obtain ⟨h1, h2, hK⟩ := hK
        split at hK
        · rename_i h' hst
          obtain ⟨w', hr, hs', hf⟩ := store_out (P := E.P) hs hz h1 h2 hst
          refine wp_skipped (w' := w') ?_ (hn _ _ _ hs' hf hK)
          unfold execOp; rw [hop]
          simp only [ha x x' _ hx hp, ha y y' _ hy hv]
          simp [hr]
        · exact hK.elim
      · exact hK.elim
    · cases hc
  case convert s d x =>
    split at hc
    all_goals try (simp only [Option.some.injEq] at hc; subst hc; exact (by simp [stepW] at hK : False).elim)
    · rename_i x' e hx h1 h2
      split at hc
      · simp only [Option.some.injEq] at hc; subst hc; exact (by simp [stepW] at hK : False).elim
      · cases hc
    · rename_i x' e hx h1 h2
      split at hc
      · rename_i h3
        simp only [Option.some.injEq] at hc; subst hc
        simp only [stepW] at hK
        split at hK
        · rename_i str hsx
          refine wp_out (h := h) (K := K) (s := convert s d (.string str)) (by unfold execOp; rw [hop]; simp only [ha x x' _ hx hsx]) ?_ hn
          generalize hcap : (Question.appendCap str.size 0 e).cut (w.tape w.drawn (.appendCap str.size 0 e)) = cap
          have hge : str.size ≤ cap := by rw [← hcap]; simp [Question.cut]
          have hk := hK w.heap.size cap (hs.none_of_ge (Nat.le_refl _)) hge
          let row : Array Value := str.data.map (fun b => Value.int .u8 b.toNat) ++ Array.replicate (cap - str.size) (.int .u8 0)
          have hrow : row.size = cap := by simp [row]; omega
          let w1 : World := { w with drawn := w.drawn + 1, heap := w.heap.push (.cells row e) }
          refine ⟨_, _, w1.freeze ⟨w.heap.size, cap, none⟩ 1, ?_, ?_, ?_, hk⟩
          · simp only [convert, Sem.run_bind, run_underlying h1, run_underlying h2, run_underlying h3, Result.andThen_ok, Conv.stringToBytes, run_choose, Question.forced, Bool.false_eq_true, if_false, hcap]
            simp only [newRow, Sem.run_bind, run_newObj, Result.andThen_ok, Sem.run_pure, markStringish, run_shape]
            have hsh : w1.shape? w.heap.size = some (e, cap) := by
              simp [World.shape?, w1, hrow]
            change (Sem.run E.P (match w1.shape? w.heap.size with | some (fst, n) => freeze { block := w.heap.size, off := n } 1 | x => pure ()) w1).andThen _ = _
            rw [hsh]
            rfl
          · have hx : (w1.freeze ⟨w.heap.size, cap, none⟩ 1).heap = w.heap.push (.cells row e (cap, cap + 1)) := by
              simp only [World.freeze, Nat.one_ne_zero, if_false, w1]
              apply Array.ext_getElem?
              intro k
              rw [Array.getElem?_modify]
              split
              · rename_i hk2; subst hk2; simp
              · rename_i hk2; simp [Array.getElem?_push, Ne.symm hk2]
            refine Sat.of_heap (w := { w with heap := w.heap.push (.cells row e (cap, cap + 1)) }) hx ?_
            refine sat_push hs ⟨row, e, (cap, cap + 1), rfl, hrow, by simpa using hge, ?_, .inr (Nat.le_refl _)⟩
            · intro i v hv
              rw [Nat.zero_add]
              simp only [List.getElem?_map, Option.map_eq_some_iff] at hv
              obtain ⟨b, hb, rfl⟩ := hv
              have hlt : i < str.data.size := by
                rcases Nat.lt_or_ge i str.data.size with g | g
                · exact g
                · rw [List.getElem?_eq_none (by simpa using g)] at hb; cases hb
              simp only [row, Array.getElem?_append, Array.size_map, hlt, if_true, Array.getElem?_map]
              have : str.data[i]? = some b := by simpa using hb
              simp [this]
          · have hx : (w1.freeze ⟨w.heap.size, cap, none⟩ 1).heap = w.heap.push (.cells row e (cap, cap + 1)) := by
              simp only [World.freeze, Nat.one_ne_zero, if_false, w1]
              apply Array.ext_getElem?
              intro k
              rw [Array.getElem?_modify]
              split
              · rename_i hk2; subst hk2; simp
              · rename_i hk2; simp [Array.getElem?_push, Ne.symm hk2]
            exact Fr.trans (fr_push hs _ (.cells row e (cap, cap + 1))) (Fr.of_heap hx rfl rfl rfl)
        · exact hK.elim
      · cases hc
    · rename_i x' e1 e hx h1 h2
      split at hc
      · rename_i h3
        split at hc
        · rename_i hsd
          simp only [Option.some.injEq] at hc; subst hc
          simp only [stepW] at hK
          split at hK
          · rename_i b n c hsx
            split at hK
            · rename_i st vs sz hb
              refine wp_out (h := h) (K := K) (s := convert s d (.slice (some b) n c)) (by unfold execOp; rw [hop]; simp only [ha x x' _ hx hsx]) ?_ hn
              obtain ⟨w', hr, hs', hf⟩ := mark_sound (P := E.P) hs hb
              refine ⟨_, h, w', ?_, hs', hf, hK⟩
              have hsd' : s = d := by simpa using hsd
              subst hsd'
              rw [h1] at h2
              simp only [Option.some.injEq, TypeDesc.slice.injEq] at h2
              subst h2
              simp only [convert, Sem.run_bind, run_underlying h1, run_underlying h3, Result.andThen_ok, beq_self_eq_true]
              simp [hr]
            · exact hK.elim
          · exact hK.elim
        · cases hc
      · cases hc
    · cases hc
  case mapUpdate t m k v =>
    exact mupd_sound hs ha hc hK (by unfold execOp; rw [hop]) hn
  case insert t m k v =>
    exact mupd_sound hs ha hc hK (by unfold execOp; rw [hop]) hn
  case call c =>
    obtain ⟨callee, args, argTypes⟩ := c
    unfold callOp at hc
    simp only at hc
    cases callee with
    | invoke r m => simp at hc
    | value f =>
      have callv : ∀ (x : Operand) (y : Opd) (xs : List Opd), f = x → conO E.ψ x = some y → conL E.ψ args.toList = some xs → stepW E ρ h K (.callv y xs) → o.wp E.P a w next Q := by
        intro x y xs hfx hy hxs hK
        subst hfx
        simp only [stepW] at hK
        split at hK
        · rename_i g first cap vs hg hvs
          obtain ⟨⟨m, hm⟩, hcl⟩ := hK
          have e1 := ha _ _ _ hy hg
          have e2 : args.map a.eval = vs.toArray := Array.ext' (by simpa using conL_ev ha hxs hvs)
          have hcl' := hcl w hs
          refine wp_entered (f := g) (args := (first.toList ++ vs ++ cap.toList).toArray) ?_ hcl' ?_
          · unfold execOp; rw [hop]
            simp only [Sem.run_bind, resolve, Deferred.ofValue, e1, e2, Sem.run_pure, Result.andThen_ok, invoke]
            rw [show (first ++ vs.toArray ++ cap) = (first.toList ++ vs ++ cap.toList).toArray from by apply Array.ext'; simp]
            exact run_callFunc_enter E hm _ w
          · rintro e w' ⟨v, h', rfl, hs', hf, hk⟩
            exact ⟨v, rfl, hn v h' w' hs' hf hk⟩
        · exact hK.elim
      cases hfc : f with
      | func fid =>
        rw [hfc] at hc
        simp only at hc
        split at hc
        · cases hc
        · rename_i fn hfn
          split at hc
          · split at hc
            · split at hc
              · simp only [Option.some.injEq] at hc; subst hc; exact (by simp [stepW] at hK : False).elim
              · cases hc
            · cases hc
          · split at hc
            · rename_i n xs hnn hxs
              simp only [Option.some.injEq] at hc; subst hc
              simp only [stepW] at hK
              split at hK
              · rename_i vs hvs
                have hfid := E.fid_ok _ _ hnn
                have e2 : args.map a.eval = vs.toArray := Array.ext' (by simpa using conL_ev ha hxs hvs)
                refine wp_entered (f := fid) (args := vs.toArray) ?_ (hK fid hfid w hs) ?_
                · unfold execOp; rw [hop, hfc]
                  simp only [Sem.run_bind, resolve, Deferred.ofValue, e2, Sem.run_pure, Result.andThen_ok, invoke, Act.eval]
                  rw [show ((#[] : Array Value) ++ vs.toArray ++ #[]) = vs.toArray from by simp]
                  exact run_callFunc_enter E hfid _ w
                · rintro e w' ⟨v, h', rfl, hs', hf, hk⟩
                  exact ⟨v, rfl, hn v h' w' hs' hf hk⟩
              · exact hK.elim
            · cases hc
      | tmp t =>
        rw [hfc] at hc; simp only at hc
        split at hc
        · rename_i y xs hy hxs
          simp only [Option.some.injEq] at hc; subst hc
          exact callv _ _ _ hfc hy hxs hK
        · cases hc
      | const v =>
        rw [hfc] at hc; simp only at hc
        split at hc
        · rename_i y xs hy hxs
          simp only [Option.some.injEq] at hc; subst hc
          exact callv _ _ _ hfc hy hxs hK
        · cases hc
      | global g =>
        rw [hfc] at hc; simp only at hc
        split at hc
        · rename_i y xs hy hxs
          simp [conO] at hy
        · cases hc
    | builtin b =>
      simp only at hc
      obtain ⟨cs, hex⟩ := exec_builtin a.eval o b args argTypes hop
      split at hc
      case h_5 s x t u ts h1 h2 =>
        obtain ⟨s0, x0, hA0, hs0, hx0⟩ := conL_two h1
        have hA : args = #[s0, x0] := by apply Array.ext'; simpa using hA0
        have hT0 : argTypes[0]? = some t := by have := congrArg (·[0]?) h2; simpa using this
        have hT1 : argTypes[1]? = some u := by have := congrArg (·[1]?) h2; simpa using this
        subst hA
        have appendCase : ∀ e (i : TypeInfo) z, E.P.underlying t = some (.slice e) → ((∃ e2, E.P.underlying u = some (.slice e2)) ∨ E.P.underlying u = some .string) → E.P.info? e = some i → zeroT E.P e = some z → (i.size == z.length && decide (0 < i.size)) = true →
            stepW E ρ h K (.append i.size i.bytes s x) → o.wp E.P a w next Q := by
          intro e i z hu1 hu2 hi hz hcond hK
          simp only [Bool.and_eq_true, beq_iff_eq, decide_eq_true_eq] at hcond
          simp only [stepW] at hK
          split at hK
          · rename_i base n c xv hsv hxv
            split at hK
            · rename_i m news hrx
              refine wp_out (h := h) (K := K) (s := Builtin.append_ argTypes o.type #[.slice base n c, xv]) ?_ (append_out hs argTypes t u o.type e i z base n c m xv news hT0 hT1 hu1 hu2 hi hz hcond.1 hcond.2 hrx hK) hn
              rw [hex]
              simp only [builtin, List.map_toArray, List.map_cons, List.map_nil, ha s0 s _ hs0 hsv, ha x0 x _ hx0 hxv]
            · exact hK.elim
          · exact hK.elim
        split at hc
        · rename_i e e2 hu1 hu2
          split at hc
          · rename_i i z hi hz
            split at hc
            · rename_i hcond
              simp only [Option.some.injEq] at hc; subst hc
              exact appendCase e i z hu1 (.inl ⟨e2, hu2⟩) hi hz hcond hK
            · cases hc
          · cases hc
        · rename_i e hu1 hu2
          split at hc
          · rename_i i z hi hz
            split at hc
            · rename_i hcond
              simp only [Option.some.injEq] at hc; subst hc
              exact appendCase e i z hu1 (.inr hu2) hi hz hcond hK
            · cases hc
          · cases hc
        · rename_i e ku hu1 hu2
          split at hc
          · rename_i i z hi hz
            split at hc
            · rename_i hcond
              simp only [Option.some.injEq] at hc; subst hc
              simp only [Bool.and_eq_true, beq_iff_eq, decide_eq_true_eq] at hcond
              simp only [stepW] at hK
              split at hK
              · rename_i base n c kx m hsv hxv
                obtain ⟨g1, g2, g3, hK⟩ := hK
                refine wp_out (h := h) (K := K) (s := Builtin.append_ argTypes o.type #[.slice base n c, .int kx m]) ?_ (appendZ_out hs argTypes t u o.type e ku kx i z base n c m hT0 hT1 hu1 hu2 hi hz hcond.1 hcond.2 g1 g2 g3 hK) hn
                rw [hex]
                simp only [builtin, List.map_toArray, List.map_cons, List.map_nil, ha s0 s _ hs0 hsv, ha x0 x _ hx0 hxv]
              · exact hK.elim
            · cases hc
          · cases hc
        · cases hc
      case h_6 d s t ts h1 h2 =>
        obtain ⟨d0, s0, hA0, hd0, hs0⟩ := conL_two h1
        have hA : args = #[d0, s0] := by apply Array.ext'; simpa using hA0
        have hT0 : argTypes[0]? = some t := by have := congrArg (·[0]?) h2; simpa using this
        subst hA
        split at hc
        · rename_i e hu1
          simp only [Option.map_eq_some_iff] at hc
          obtain ⟨size, hz, rfl⟩ := hc
          have fin : ∀ (base : Option Addr) (n c : Nat) (sv : Value) (m : Nat) (cells : List Value), ρ d = some (.slice base n c) → ρ s = some sv → (∀ w : World, (Builtin.lenOf sv).run E.P w = .ok m w) → (Builtin.firstCells size (min m n) sv).run E.P w = .ok cells.toArray w →
              (∀ u ∈ cells, one u = true) → (match base with | none => K (.int .i64 (min m n : Nat)) h | some a => (match hstore h a cells with | some h' => K (.int .i64 (min m n : Nat)) h' | none => False)) → o.wp E.P a w next Q := by
            intro base n c sv m cells hd hsv hl hf h3 hk
            refine wp_out (h := h) (K := K) (s := Builtin.copy_ argTypes o.type #[.slice base n c, sv]) ?_ (copy_out hs argTypes t o.type e size hT0 hu1 hz base n c sv m cells hl hf h3 hk) hn
            rw [hex]
            simp only [builtin, List.map_toArray, List.map_cons, List.map_nil, ha d0 d _ hd0 hd, ha s0 s _ hs0 hsv]
          simp only [stepW] at hK
          split at hK
          · rename_i base n c b m cs hd hsv
            split at hK
            · rename_i l hl
              obtain ⟨h3, hK⟩ := hK
              exact fin base n c _ m l hd hsv (fun _ => rfl) (run_loadCells hs hl) h3 (by cases base <;> exact hK)
            · exact hK.elim
          · rename_i base n c m cs hd hsv
            obtain ⟨rfl, hK⟩ := hK
            refine fin base n c _ 0 [] hd hsv (fun _ => rfl) rfl (by simp) ?_
            cases base
            · simpa using hK
            · simpa [hstore] using hK
          · rename_i base n c str hd hsv
            have hfc : ∀ sz, (Builtin.firstCells sz (min str.size n) (.string str)).run E.P w = .ok ((str.data.toList.take (min str.size n)).map fun b => Value.int .u8 b.toNat).toArray w := by
              intro sz
              simp only [Builtin.firstCells, Sem.run_pure]
              congr 1
              apply Array.ext'
              simp [List.take_take]
            have hone : ∀ u ∈ (str.data.toList.take (min str.size n)).map (fun b => Value.int .u8 b.toNat), one u = true := by
              intro u hu
              obtain ⟨b, _, rfl⟩ := List.mem_map.1 hu
              rfl
            cases base with
            | none => exact fin none n c _ str.size _ hd hsv (fun _ => rfl) (hfc size) hone hK
            | some b =>
              obtain ⟨hz1, hK⟩ := hK
              exact fin (some b) n c _ str.size _ hd hsv (fun _ => rfl) (hfc size) hone hK
          · exact hK.elim
        · cases hc
      case h_7 m k t ts h1 h2 =>
        obtain ⟨m0, k0, hA0, hm0, hk0⟩ := conL_two h1
        have hA : args = #[m0, k0] := by apply Array.ext'; simpa using hA0
        have hT0 : argTypes[0]? = some t := by have := congrArg (·[0]?) h2; simpa using this
        subst hA
        split at hc
        · rename_i kt e hu1
          simp only [Option.map_eq_some_iff] at hc
          obtain ⟨kt', hkt, rfl⟩ := hc
          simp only [stepW] at hK
          split at hK
          · rename_i r kv hmr hkv
            split at hK
            · rename_i es c hr
              have hx0 : ((#[Value.map (some r), kv] : Array Value)[0]?) = some (.map (some r)) := rfl
              have hx1 : ((#[Value.map (some r), kv] : Array Value)[1]?) = some kv := rfl
              split at hK
              · rename_i uu i val hu hf
                have hck := run_checkKey_of hkt hu es.isEmpty w
                have hfk := run_findKey_of hkt hf w
                obtain ⟨sa, fr⟩ := sat_obj (o' := .map (es.eraseIdxIfInBounds i) c) hs hr rfl
                refine wp_out (h := h) (K := K) (s := Builtin.delete_ argTypes o.type #[.map (some r), kv]) ?_ ⟨_, _, _, ?_, sa, fr, hK⟩ hn
                · rw [hex]
                  simp only [builtin, List.map_toArray, List.map_cons, List.map_nil, ha m0 m _ hm0 hmr, ha k0 k _ hk0 hkv]
                · simp only [Builtin.delete_, hT0, hx0, hx1, Sem.run_bind, run_underlying hu1, Result.andThen_ok, run_getMap hs (mapAt_obj hr), hck, hfk, run_setObj' hs hr, Sem.run_pure]
              · rename_i uu hu hf
                have hck := run_checkKey_of hkt hu es.isEmpty w
                have hfk := run_findKey_of hkt hf w
                obtain ⟨sa, fr⟩ := sat_obj (o' := .map es c) hs hr rfl
                refine wp_out (h := h) (K := K) (s := Builtin.delete_ argTypes o.type #[.map (some r), kv]) ?_ ⟨_, _, _, ?_, sa, fr, hK⟩ hn
                · rw [hex]
                  simp only [builtin, List.map_toArray, List.map_cons, List.map_nil, ha m0 m _ hm0 hmr, ha k0 k _ hk0 hkv]
                · simp only [Builtin.delete_, hT0, hx0, hx1, Sem.run_bind, run_underlying hu1, Result.andThen_ok, run_getMap hs (mapAt_obj hr), hck, hfk, run_setObj' hs hr, Sem.run_pure]
              · exact hK.elim
            · exact hK.elim
          · exact hK.elim
        · cases hc
      all_goals
        exfalso
        repeat' (first | (cases hc; done) | (split at hc))
        all_goals first
          | (simp only [Option.some.injEq] at hc; subst hc; simp [stepW] at hK; done)
          | (simp only [Option.map_eq_some_iff] at hc; obtain ⟨_, _, rfl⟩ := hc; simp [stepW] at hK; done)
  case binOp =>
    exfalso
    unfold eqOp at hc
    repeat' (first | (cases hc; done) | (split at hc))
    all_goals first
      | (simp only [Option.some.injEq] at hc; subst hc; simp [stepW] at hK; done)
      | (simp only [Option.map_eq_some_iff] at hc; obtain ⟨_, _, rfl⟩ := hc; simp [stepW] at hK; done)
  case makeFunc fn first captured =>
    exfalso
    cases fn <;> simp only at hc <;> try (cases hc; done)
    split at hc
    · simp only [Option.some.injEq] at hc; subst hc; simp [stepW] at hK
    · cases hc
  case build =>
    exfalso
    repeat' (first | (cases hc; done) | (split at hc))
    all_goals
      simp only [Option.map_eq_some_iff] at hc
      obtain ⟨_, _, hc⟩ := hc
      first
        | (subst hc; simp [stepW] at hK; done)
        | (split at hc <;> (subst hc; simp [stepW] at hK; done))
  all_goals
    exfalso
    repeat' (first | (cases hc; done) | (split at hc))
    all_goals first
      | (simp only [Option.some.injEq] at hc; subst hc; simp [stepW] at hK; done)
      | (simp only [Option.map_eq_some_iff] at hc; obtain ⟨_, _, rfl⟩ := hc; simp [stepW] at hK; done)

theorem step_sound (hs : Sat h w) (ha : Agree E.ψ ρ a.eval) {o : Oper} {ao : AOp} (hc : compOp E.P E.ψ o.op = some ao) (hK : step E ρ h ao K) {next : Act → World → Prop} {Q : Exit → Act → World → Prop}
    (hn : ∀ v h' w', Sat h' w' → Fr h h' w w' → K v h' → next (a.put o.dst v) w') : o.wp E.P a w next Q := by
  have alloc : (match allocV ρ ao with | some (blk, mk) => ∀ b, h b = none → K (mk b) (h.set b blk) | none => False) → o.wp E.P a w next Q := by
    intro hK
    split at hK
    · rename_i blk mk hv
      obtain ⟨obj, hr, hb⟩ := alloc_sound (P := E.P) (w := w) ha hc hv
      exact wp_value hr (hn _ _ _ (sat_push hs hb) (fr_push hs blk obj) (hK _ (hs.none_of_ge (Nat.le_refl _))))
    · exact hK.elim
  have quiet : (match pureV E.fid ρ h ao with | some v => K v h | none => False) → o.wp E.P a w next Q := by
    intro hK
    split at hK
    · rename_i v hv
      exact wp_value (quiet_sound (P := E.P) hs ha E.fid_ok (fun f => rfl) hc hv) (hn _ _ _ hs (Fr.refl _ _) hK)
    · exact hK.elim
  unfold step at hK
  split at hK
  all_goals first
    | exact alloc hK
    | exact stepW_sound hs ha hc hK hn
    | exact hK.elim
    | exact quiet hK

end
end Go.Bb
