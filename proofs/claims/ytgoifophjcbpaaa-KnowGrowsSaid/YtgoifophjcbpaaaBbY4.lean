/- Reckoning: maps written; every operation. -/
import Derived.Test.YtgoifophjcbpaaaBbY3
namespace Go.Bb
set_option linter.unusedVariables false
set_option linter.unusedSimpArgs false

section
variable {has : Nat → Bool} {E : Env} {h0 : Heap} {r : Rr} {m m' : VM} {h : Heap} {ρ ρ' : Opd → Option Value} {v : Value} {call : CallE} {K : Value → Heap → Prop} {fid : Nat → Option FuncId}

theorem All2.modify {α β : Type} {R : α → β → Prop} {f : α → α} {g : β → β} (hfg : ∀ a b, R a b → R (f a) (g b)) : ∀ {l : List α} {l' : List β} (i : Nat), All2 R l l' → All2 R (l.modify i f) (l'.modify i g)
  | _, _, i, .nil => by simp; exact .nil
  | _, _, 0, .cons x t => by simp; exact .cons (hfg _ _ x) t
  | _, _, i + 1, .cons x t => by simp; exact .cons x (All2.modify hfg i t)
theorem All2.erase {α β : Type} {R : α → β → Prop} : ∀ {l : List α} {l' : List β} (i : Nat), All2 R l l' → All2 R (l.eraseIdx i) (l'.eraseIdx i)
  | _, _, i, .nil => by simp; exact .nil
  | _, _, 0, .cons x t => by simp; exact t
  | _, _, i + 1, .cons x t => by simp; exact .cons x (All2.erase i t)

theorem wMupd_sim (s : Sim E.fid r ρ ρ') (p : HS E.fid h0 r m h) {kt : KeyT} {x k y : Opd} (e : wMupd kt x k y call ρ m = some (v, m')) (q : After E h0 r m' v K) : step E ρ' h (.mupd kt x k y) K := by
  unfold wMupd at e
  split at e
  · rename_i b kv vv hx hk hy
    obtain ⟨x', h1, h2⟩ := s x _ hx
    obtain ⟨k', h3, h4⟩ := s k _ hk
    obtain ⟨y', h5, h6⟩ := s y _ hy
    obtain ⟨kk, hb, rfl⟩ := h2.of_map
    split at e
    · rename_i es c hg
      cases hc : (constOk kv && noTup vv) with
      | false => rw [hc] at hg; cases hg
      | true =>
        rw [hc] at hg; simp only [cond_true] at hg
        simp only [Bool.and_eq_true] at hc
        rw [h4.of_const hc.1] at h3
        have hv1 := h6.one' hc.2
        obtain ⟨z, hz, hbr⟩ := HR.at (p := p.toHR) hb hg
        cases hbr with
        | map he =>
          rename_i es'
          split at e
          · rename_i hf hfi
            simp only [Option.some.injEq, Prod.mk.injEq] at e
            obtain ⟨rfl, rfl⟩ := e
            rcases findV_sim he hfi with ⟨g, _⟩ | ⟨j, w, w', g, g1, g2⟩
            · cases g
            · simp only [Option.some.injEq, Prod.mk.injEq] at g
              obtain ⟨rfl, rfl⟩ := g
              simp only [step, stepW, h1, h3, h5, hz, hf, g1]
              refine q _ _ r (Rr.le_refl _) (p.put hg hb (.map ?_)) undef_rel
              rw [Array.toList_modify]
              exact he.modify (fun a b hab => ⟨rfl, hv1, hab.born⟩) _
          · rename_i hf hfi
            simp only [Option.some.injEq, Prod.mk.injEq] at e
            obtain ⟨rfl, rfl⟩ := e
            rcases findV_sim he hfi with ⟨_, g1⟩ | ⟨j, w, w', g, _, _⟩
            · simp only [step, stepW, h1, h3, h5, hz, hf, g1]
              refine q _ _ r (Rr.le_refl _) (p.put hg hb (.map ?_)) undef_rel
              rw [Array.toList_push]
              exact he.append (.cons ⟨rfl, hv1, rfl⟩ .nil)
            · cases g
          · cases e
    · cases e
  · cases e

theorem wMdel_sim (s : Sim E.fid r ρ ρ') (p : HS E.fid h0 r m h) {kt : KeyT} {x k : Opd} (e : wMdel kt x k call ρ m = some (v, m')) (q : After E h0 r m' v K) : step E ρ' h (.mdel kt x k) K := by
  unfold wMdel at e
  split at e
  · rename_i b kv hx hk
    obtain ⟨x', h1, h2⟩ := s x _ hx
    obtain ⟨k', h3, h4⟩ := s k _ hk
    obtain ⟨kk, hb, rfl⟩ := h2.of_map
    split at e
    · rename_i es c hg
      cases hc : constOk kv with
      | false => rw [hc] at hg; cases hg
      | true =>
        rw [hc] at hg; simp only [cond_true] at hg
        rw [h4.of_const hc] at h3
        obtain ⟨z, hz, hbr⟩ := HR.at (p := p.toHR) hb hg
        cases hbr with
        | map he =>
          rename_i es'
          split at e
          · rename_i hf hfi
            simp only [Option.some.injEq, Prod.mk.injEq] at e
            obtain ⟨rfl, rfl⟩ := e
            rcases findV_sim he hfi with ⟨g, _⟩ | ⟨j, w, w', g, g1, g2⟩
            · cases g
            · simp only [Option.some.injEq, Prod.mk.injEq] at g
              obtain ⟨rfl, rfl⟩ := g
              simp only [step, stepW, h1, h3, hz, hf, g1]
              refine q _ _ r (Rr.le_refl _) (p.put hg hb (.map ?_)) undef_rel
              rw [Array.toList_eraseIdxIfInBounds]
              exact he.erase _
          · rename_i hf hfi
            simp only [Option.some.injEq, Prod.mk.injEq] at e
            obtain ⟨rfl, rfl⟩ := e
            rcases findV_sim he hfi with ⟨_, g1⟩ | ⟨j, w, w', g, _, _⟩
            · simp only [step, stepW, h1, h3, hz, hf, g1]
              exact q _ _ r (Rr.le_refl _) (p.put hg hb (.map he)) undef_rel
            · cases g
          · cases e
    · cases e
  · cases e

theorem wPure_sim (hh : Has has E.fid) (s : Sim E.fid r ρ ρ') (p : HS E.fid h0 r m h) {op : AOp} (hq : op.quiet = true) (e : wPure (boxP has op).f call ρ m = some (v, m')) (q : After E h0 r m' v K) : step E ρ' h op K := by
  unfold wPure at e
  split at e
  · rename_i u hu
    simp only [Option.some.injEq, Prod.mk.injEq] at e
    obtain ⟨rfl, rfl⟩ := e
    obtain ⟨v', h1, h2⟩ := pure_sim hh s p.toHR hu
    rw [step_F hq, h1, withV_some]
    exact q _ _ r (Rr.le_refl _) p h2
  · cases e

theorem step_sim (hh : Has has E.fid) (hc : CallsOk E h0 call) (s : Sim E.fid r ρ ρ') (p : HS E.fid h0 r m h) {op : AOp} (e : (boxW has op).f call ρ m = some (v, m')) (q : After E h0 r m' v K) : step E ρ' h op K := by
  cases op with
  | alloc z => exact step_alloc_sim (call := call) (f := aAlloc z) rfl (fun _ _ => aAlloc_sim) p e q
  | box x => exact step_alloc_sim (call := call) (f := aBox x) rfl (fun _ _ => aBox_sim s) p e q
  | bslice n size z ps => exact step_alloc_sim (call := call) (f := aBslice n size z ps) rfl (fun _ _ => aBslice_sim s) p e q
  | mslice b z l c => exact step_alloc_sim (call := call) (f := aMslice b z l c) rfl (fun _ _ => aMslice_sim s) p e q
  | mmap => exact step_alloc_sim (call := call) (ρ := ρ) (f := aMmap) rfl (fun _ _ => aMmap_sim) p e q
  | store => exact wStore_sim (call := call) s p e q
  | call => exact wCall_sim hc s p e q
  | callv => exact wCallv_sim hc s p e q
  | append => exact wAppend_sim (call := call) s p e q
  | appendZ => exact wAppendZ_sim (call := call) s p e q
  | copy => exact wCopy_sim (call := call) s p e q
  | mupd => exact wMupd_sim (call := call) s p e q
  | mdel => exact wMdel_sim (call := call) s p e q
  | bytesOf => exact wBytes_sim (call := call) s p e q
  | mark => exact wMark_sim (call := call) s p e q
  | bad => cases e
  | mv => exact wPure_sim (call := call) hh s p rfl e q
  | num => exact wPure_sim (call := call) hh s p rfl e q
  | pick => exact wPure_sim (call := call) hh s p rfl e q
  | load => exact wPure_sim (call := call) hh s p rfl e q
  | nilc => exact wPure_sim (call := call) hh s p rfl e q
  | bin => exact wPure_sim (call := call) hh s p rfl e q
  | eqv => exact wPure_sim (call := call) hh s p rfl e q
  | eqa => exact wPure_sim (call := call) hh s p rfl e q
  | un => exact wPure_sim (call := call) hh s p rfl e q
  | conv => exact wPure_sim (call := call) hh s p rfl e q
  | strOf => exact wPure_sim (call := call) hh s p rfl e q
  | strId => exact wPure_sim (call := call) hh s p rfl e q
  | faddr => exact wPure_sim (call := call) hh s p rfl e q
  | field => exact wPure_sim (call := call) hh s p rfl e q
  | iaddrA => exact wPure_sim (call := call) hh s p rfl e q
  | iaddrS => exact wPure_sim (call := call) hh s p rfl e q
  | idxA => exact wPure_sim (call := call) hh s p rfl e q
  | idxS => exact wPure_sim (call := call) hh s p rfl e q
  | ext => exact wPure_sim (call := call) hh s p rfl e q
  | lenS => exact wPure_sim (call := call) hh s p rfl e q
  | lenStr => exact wPure_sim (call := call) hh s p rfl e q
  | capS => exact wPure_sim (call := call) hh s p rfl e q
  | mn => exact wPure_sim (call := call) hh s p rfl e q
  | mx => exact wPure_sim (call := call) hh s p rfl e q
  | slStr => exact wPure_sim (call := call) hh s p rfl e q
  | slSl => exact wPure_sim (call := call) hh s p rfl e q
  | slArr => exact wPure_sim (call := call) hh s p rfl e q
  | arrOf => exact wPure_sim (call := call) hh s p rfl e q
  | fn => exact wPure_sim (call := call) hh s p rfl e q
  | build => exact wPure_sim (call := call) hh s p rfl e q
  | prim => exact wPure_sim (call := call) hh s p rfl e q
  | lookup => exact wPure_sim (call := call) hh s p rfl e q
  | lenM => exact wPure_sim (call := call) hh s p rfl e q
end
end Go.Bb
