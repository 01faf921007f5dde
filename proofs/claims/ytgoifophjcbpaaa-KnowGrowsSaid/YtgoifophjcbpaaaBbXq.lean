/- Reckoning: each operation that changes nothing. -/
import Derived.Test.YtgoifophjcbpaaaBbXp
namespace Go.Bb
set_option linter.unusedVariables false
set_option linter.unusedSimpArgs false

section
variable {fid : Nat → Option FuncId} {r : Rr} {m : VM} {h : Heap} {ρ ρ' : Opd → Option Value} {v : Value}

theorem oMv_sim (s : Sim fid r ρ ρ') {x : Opd} (e : oMv x ρ m = some v) : ∃ v', pureV fid ρ' h (.mv x) = some v' ∧ VR fid r v v' := s x v e
theorem oNum_sim {n : Nat} (e : oNum n ρ m = some v) : ∃ v', pureV fid ρ' h (.num n) = some v' ∧ VR fid r v v' := by
  simp only [oNum, Option.some.injEq] at e; subst e; exact ⟨_, rfl, .int⟩
theorem oPick_sim (s : Sim fid r ρ ρ') {c a b : Opd} (e : oPick c a b ρ m = some v) : ∃ v', pureV fid ρ' h (.pick c a b) = some v' ∧ VR fid r v v' := by
  unfold oPick at e
  split at e
  · rename_i u hu
    split at e
    · rename_i hb
      have := s.bool (by rw [hu, vBool_some hb])
      simp only [pureV, this, if_true]; exact s _ _ e
    · rename_i hb
      have := s.bool (by rw [hu, vBool_some hb])
      simp only [pureV, this, Bool.false_eq_true, if_false]; exact s _ _ e
    · cases e
  · cases e
theorem oLoad_sim (s : Sim fid r ρ ρ') (p : HR fid r m h) {k : Option Nat} {x : Opd} (e : oLoad k x ρ m = some v) : ∃ v', pureV fid ρ' h (.load k x) = some v' ∧ VR fid r v v' := by
  unfold oLoad at e
  split at e
  · rename_i u hu
    split at e
    · rename_i a ha
      obtain ⟨u', h1, h2⟩ := s x _ hu
      rw [vPtr_some ha] at h2
      obtain ⟨kk, hs, hk, rfl⟩ := h2.of_ptr
      obtain ⟨v', h3, h4⟩ := read_sim p hk e
      exact ⟨v', by simp only [pureV, h1]; exact h3, .one h4⟩
    · cases e
  · cases e
theorem oNilc_sim (s : Sim fid r ρ ρ') {x : Opd} (e : oNilc x ρ m = some v) : ∃ v', pureV fid ρ' h (.nilc x) = some v' ∧ VR fid r v v' := by
  unfold oNilc at e
  split at e
  · rename_i u hu
    obtain ⟨u', h1, h2⟩ := s x _ hu
    split at e
    · rename_i a ha
      simp only [Option.some.injEq] at e; subst e
      have := vPtr_some ha
      subst this
      obtain ⟨kk, hs, hk, rfl⟩ := h2.of_ptr
      exact ⟨_, by simp only [pureV, h1], h2⟩
    · cases e
    · split at e
      · rename_i n a b hf
        simp only [Option.some.injEq] at e; subst e
        have := vFn_some hf
        simp only at this
        subst this
        obtain ⟨n', g, a', c', _, _, rfl, _, _⟩ := h2.of_fn
        exact ⟨_, by simp only [pureV, h1], h2⟩
      · cases e
  · cases e
theorem oBin_sim (s : Sim fid r ρ ρ') {op : BinOp} {x y : Opd} (e : oBin op x y ρ m = some v) : ∃ v', pureV fid ρ' h (.bin op x y) = some v' ∧ VR fid r v v' := by
  unfold oBin at e
  split at e
  · rename_i a b ha hb
    have e' := binE_some e
    obtain ⟨p1, p2, p3⟩ := binV_plain e'
    exact ⟨v, by simp only [pureV, s.plain' ha p1, s.plain' hb p2, e'], .plain p3⟩
  · cases e
theorem oConv_sim (s : Sim fid r ρ ρ') {k : IntKind} {x : Opd} (e : oConv k x ρ m = some v) : ∃ v', pureV fid ρ' h (.conv k x) = some v' ∧ VR fid r v v' := by
  unfold oConv at e
  split at e
  · rename_i u hu
    split at e
    · rename_i hi
      rw [mkInt_eq, wrapE_eq, Option.some.injEq] at e; subst e
      have := s.int (by rw [hu, vInt_some hi])
      exact ⟨_, by simp only [pureV, this], .int⟩
    · cases e
  · cases e
theorem oStrOf_sim (s : Sim fid r ρ ρ') (p : HR fid r m h) {x : Opd} (e : oStrOf x ρ m = some v) : ∃ v', pureV fid ρ' h (.strOf x) = some v' ∧ VR fid r v v' := by
  unfold oStrOf at e
  split at e
  · rename_i u hu
    obtain ⟨u', h1, h2⟩ := s x _ hu
    split at e
    · rename_i hs
      simp only [Option.some.injEq] at e; subst e
      rw [vSl_some hs] at h2
      rw [h2.of_sl0] at h1
      exact ⟨_, by simp only [pureV, h1], .plain rfl⟩
    · rename_i a n c hs
      rw [vSl_some hs] at h2
      obtain ⟨k, c', o, hsp, hk, rfl, hn, q0, q1⟩ := h2.of_sl
      split at e
      · rename_i l hl
        rw [Option.map_eq_some_iff] at e
        obtain ⟨bs, hbs, rfl⟩ := e
        obtain ⟨l', g1, g2⟩ := cells_sim p hk hl
        have : hcells h ⟨k.b, o, none⟩ n = some l' := by
          cases n with
          | zero =>
            have : l' = [] := by have := hcells_length g1; exact List.eq_nil_of_length_eq_zero this
            subst this; rfl
          | succ n =>
            have : o = a.off + k.sh := by
              by_cases z : k.es = 0
              · exact (q0 z).2
              · exact (q1 z).2 (by simp at hn; omega)
            rw [this]; exact g1
        exact ⟨_, by simp only [pureV, h1, this, bytesV_sim g2 hbs, Option.map_some], .plain rfl⟩
      · cases e
    · cases e
  · cases e
theorem oFaddr_sim (s : Sim fid r ρ ρ') {off : Nat} {x : Opd} (e : oFaddr off x ρ m = some v) : ∃ v', pureV fid ρ' h (.faddr off x) = some v' ∧ VR fid r v v' := by
  unfold oFaddr at e
  split at e
  · rename_i u hu
    split at e
    · rename_i b o ha
      rw [mkPtr_eq, Option.some.injEq] at e; subst e
      obtain ⟨u', h1, h2⟩ := s x _ hu
      rw [vPtr_some ha] at h2
      obtain ⟨kk, hs, hk, rfl⟩ := h2.of_ptr
      refine ⟨.pointer (some ⟨kk.b, o + kk.sh + off, none⟩), by simp only [pureV, h1, if_true], ?_⟩
      have := VRb.ptr (r := r) (a := ⟨b, o + off, none⟩) (k := kk) rfl hk
      simp only at this
      rw [show o + kk.sh + off = o + off + kk.sh from by omega]
      exact .one (.one (.base this))
    · cases e
  · cases e
theorem oField_sim (s : Sim fid r ρ ρ') {k : Option Nat} {off : Nat} {x : Opd} (e : oField k off x ρ m = some v) : ∃ v', pureV fid ρ' h (.field k off x) = some v' ∧ VR fid r v v' := by
  unfold oField at e
  split at e
  · rename_i u hu
    split at e
    · rename_i cs hc
      obtain ⟨u', h1, h2⟩ := s x _ hu
      rw [vAgg_some hc] at h2
      obtain ⟨a', rfl, ha⟩ := h2.of_agg
      obtain ⟨v', g1, g2⟩ := part_sim ha e
      exact ⟨v', by simp only [pureV, h1]; exact g1, g2⟩
    · cases e
  · cases e
theorem inE_some {j : Int} {n i : Nat} (e : inE j n = some i) : j = Int.ofNat i ∧ i < n := by
  unfold inE at e
  split at e
  · rename_i j
    cases q : Nat.blt j n with
    | false => rw [q] at e; cases e
    | true => rw [q] at e; simp only [cond_true, Option.some.injEq] at e; subst e; exact ⟨rfl, by simp [Nat.blt] at q; omega⟩
  · cases e
theorem oIaddrA_sim (s : Sim fid r ρ ρ') {n size : Nat} {x i : Opd} (e : oIaddrA n size x i ρ m = some v) : ∃ v', pureV fid ρ' h (.iaddrA n size x i) = some v' ∧ VR fid r v v' := by
  unfold oIaddrA at e
  split at e
  · rename_i u w hu hw
    split at e
    · rename_i b o k j ha hi
      split at e
      · rename_i jj hj
        obtain ⟨rfl, hlt⟩ := inE_some hj
        rw [mkPtr_eq, Option.some.injEq] at e; subst e
        obtain ⟨u', h1, h2⟩ := s x _ hu
        rw [vPtr_some ha] at h2
        obtain ⟨kk, hs, hk, rfl⟩ := h2.of_ptr
        have hi' := s.int (by rw [hw, vInt_some hi])
        refine ⟨.pointer (some ⟨kk.b, o + kk.sh + jj * size, none⟩), ?_, ?_⟩
        · simp only [pureV, h1, hi']
          rw [if_pos ⟨trivial, by simp, by simp; omega⟩]; simp
        · have := VRb.ptr (r := r) (a := ⟨b, o + jj * size, none⟩) (k := kk) rfl hk
          simp only at this
          rw [show o + kk.sh + jj * size = o + jj * size + kk.sh from by omega]
          exact .one (.one (.base this))
      · cases e
    · cases e
  · cases e
theorem oIaddrS_sim (s : Sim fid r ρ ρ') {size : Nat} {x i : Opd} (e : oIaddrS size x i ρ m = some v) : ∃ v', pureV fid ρ' h (.iaddrS size x i) = some v' ∧ VR fid r v v' := by
  unfold oIaddrS at e
  split at e
  · rename_i u w hu hw
    split at e
    · rename_i b o n c k j ha hi
      split at e
      · rename_i jj hj
        obtain ⟨rfl, hlt⟩ := inE_some hj
        rw [mkPtr_eq, Option.some.injEq] at e; subst e
        obtain ⟨u', h1, h2⟩ := s x _ hu
        rw [vSl_some ha] at h2
        obtain ⟨kk, c', o', hs, hk, rfl, hn, q0, q1⟩ := h2.of_sl
        have ho : o' = o + kk.sh := by
          by_cases z : kk.es = 0
          · exact (q0 z).2
          · exact (q1 z).2 (by simp at hn; omega)
        subst ho
        have hi' := s.int (by rw [hw, vInt_some hi])
        refine ⟨.pointer (some ⟨kk.b, o + kk.sh + jj * size, none⟩), ?_, ?_⟩
        · simp only [pureV, h1, hi']
          rw [if_pos ⟨trivial, by simp, by simp; omega⟩]; simp
        · have := VRb.ptr (r := r) (a := ⟨b, o + jj * size, none⟩) (k := kk) rfl hk
          simp only at this
          rw [show o + kk.sh + jj * size = o + jj * size + kk.sh from by omega]
          exact .one (.one (.base this))
      · cases e
    · cases e
  · cases e
theorem oExt_sim (s : Sim fid r ρ ρ') {x : Opd} {i : Nat} (e : oExt x i ρ m = some v) : ∃ v', pureV fid ρ' h (.ext x i) = some v' ∧ VR fid r v v' := by
  unfold oExt at e
  split at e
  · rename_i u hu
    split at e
    · rename_i cs hc
      obtain ⟨u', h1, h2⟩ := s x _ hu
      rw [vTup_some hc] at h2
      obtain ⟨a', rfl, ha⟩ := h2.of_tup
      obtain ⟨v', g1, g2⟩ := ha.get e
      exact ⟨v', by simp only [pureV, h1]; exact g1, .one g2⟩
    · cases e
  · cases e
theorem oLenS_sim (s : Sim fid r ρ ρ') {x : Opd} (e : oLenS x ρ m = some v) : ∃ v', pureV fid ρ' h (.lenS x) = some v' ∧ VR fid r v v' := by
  unfold oLenS at e
  split at e
  · rename_i u hu
    split at e
    · rename_i a n c hc
      rw [mkInt_eq, Option.some.injEq] at e; subst e
      obtain ⟨u', h1, h2⟩ := s x _ hu
      rw [vSl_some hc] at h2
      cases a with
      | none => rw [h2.of_sl0] at h1; exact ⟨_, by simp only [pureV, h1], .int⟩
      | some a =>
        obtain ⟨kk, c', o', hs, hk, rfl, _⟩ := h2.of_sl
        exact ⟨_, by simp only [pureV, h1], .int⟩
    · cases e
  · cases e
end
end Go.Bb
