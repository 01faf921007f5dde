/- Reckoning: all quiet operations; new blocks. -/
import Derived.Test.YtgoifophjcbpaaaBbXv
namespace Go.Bb
set_option linter.unusedVariables false
set_option linter.unusedSimpArgs false

section
variable {has : Nat → Bool} {fid : Nat → Option FuncId} {r : Rr} {m : VM} {h : Heap} {ρ ρ' : Opd → Option Value} {v : Value}

theorem pure_sim (hh : Has has fid) (s : Sim fid r ρ ρ') (p : HR fid r m h) {op : AOp} (e : (boxP has op).f ρ m = some v) : ∃ v', pureV fid ρ' h op = some v' ∧ VR fid r v v' := by
  cases op with
  | mv => exact oMv_sim (m := m) s e
  | num => exact oNum_sim (m := m) (ρ := ρ) e
  | pick => exact oPick_sim (m := m) s e
  | load => exact oLoad_sim s p e
  | nilc => exact oNilc_sim (m := m) s e
  | bin => exact oBin_sim (m := m) s e
  | eqv => exact rest_eqv (m := m) s e
  | eqa => exact rest_eqa (m := m) s e
  | un => exact rest_un (m := m) s e
  | conv => exact oConv_sim (m := m) s e
  | strOf => exact oStrOf_sim s p e
  | strId => exact rest_strId (m := m) s e
  | faddr => exact oFaddr_sim (m := m) s e
  | field => exact oField_sim (m := m) s e
  | iaddrA => exact oIaddrA_sim (m := m) s e
  | iaddrS => exact oIaddrS_sim (m := m) s e
  | idxA => exact rest_idxA (m := m) s e
  | idxS => exact rest_idxS (m := m) s e
  | ext => exact oExt_sim (m := m) s e
  | lenS => exact oLenS_sim (m := m) s e
  | lenStr => exact rest_lenStr (m := m) s e
  | capS => exact oCap_sim s p e
  | mn => exact rest_mn (m := m) s e
  | mx => exact rest_mx (m := m) s e
  | slStr => exact rest_slStr (m := m) s e
  | slSl => exact oSl_sim s p e
  | slArr => exact oSlArr_sim s p e
  | arrOf => exact oArrOf_sim (m := m) s e
  | fn => exact oFn_sim (m := m) hh s e
  | build => exact oBuild_sim (m := m) s e
  | prim => exact rest_prim (m := m) s e
  | lookup => exact oLook_sim s p e
  | lenM => exact oLenM_sim s p e
  | alloc => cases e
  | box => cases e
  | bslice => cases e
  | mslice => cases e
  | mmap => cases e
  | store => cases e
  | call => cases e
  | callv => cases e
  | append => cases e
  | appendZ => cases e
  | copy => cases e
  | mupd => cases e
  | mdel => cases e
  | bytesOf => cases e
  | mark => cases e
  | bad => cases e

theorem BR.exact {vs vs' : List Value} (hv : All2 (VR0 fid r) vs vs') (b sz : Nat) (hs : sz = vs'.length) : BR fid r ⟨b, 0, sz, 0⟩ (.cells 0 vs) (.own 0 vs' sz) := by
  have := BR.cells (fid := fid) (r := r) (k := ⟨b, 0, sz, 0⟩) (es := 0) (vs := vs) (pre := []) (vs' := vs') (rest := []) rfl rfl hv (fun _ => ⟨rfl, rfl, by simp [hv.length, hs]⟩) (by simp [hs])
  simpa using this

/-- What comes of an operation that makes a block. -/
def AllocOk (fid : Nat → Option FuncId) (r : Rr) (vb : VB) (mk : Nat → Value) (blk : Blk) (mk' : Nat → Value) : Prop :=
  ∃ sz, ∀ (n b : Nat) (r' : Rr), r.le r' → r' n = some ⟨b, 0, sz, 0⟩ → BR fid r' ⟨b, 0, sz, 0⟩ vb blk ∧ VR fid r' (mk n) (mk' b)

theorem vr_ptr {n b sz : Nat} (hk : r n = some ⟨b, 0, sz, 0⟩) : VR fid r (.pointer (some ⟨n, 0, none⟩)) (.pointer (some ⟨b, 0, none⟩)) :=
  .one (.one (.base (.ptr (a := ⟨n, 0, none⟩) (k := ⟨b, 0, sz, 0⟩) rfl hk)))
theorem vr_slice {n b sz l c : Nat} (hk : r n = some ⟨b, 0, sz, 0⟩) (hl : l ≤ c) : VR fid r (.slice (some ⟨n, 0, none⟩) l c) (.slice (some ⟨b, 0, none⟩) l c) :=
  .one (.one (.base (.slice (a := ⟨n, 0, none⟩) (k := ⟨b, 0, sz, 0⟩) (n := l) (c := c) (c' := c) (o := 0) rfl hk hl (fun _ => ⟨rfl, rfl⟩) (fun h => absurd rfl h))))
theorem all_rep {z : List Value} {n : Nat} {f : Value → Bool} (h : z.all f = true) : (List.flatten (List.replicate n z)).all f = true := by
  rw [List.all_eq_true] at h ⊢
  intro x hx
  simp only [List.mem_flatten, List.mem_replicate] at hx
  obtain ⟨l, ⟨_, rfl⟩, hx⟩ := hx
  exact h x hx
theorem len_rep (z : List Value) (n : Nat) : (List.flatten (List.replicate n z)).length = n * z.length := by simp

theorem aAlloc_sim {z : List Value} {vb : VB} {mk : Nat → Value} (e : aAlloc z ρ = some (vb, mk)) : ∃ blk mk', allocV ρ' (.alloc z) = some (blk, mk') ∧ AllocOk fid r vb mk blk mk' := by
  unfold aAlloc at e
  cases hz : z.all plain with
  | false => rw [hz] at e; cases e
  | true =>
    rw [hz] at e; simp only [cond_true, Option.some.injEq, Prod.mk.injEq] at e
    obtain ⟨rfl, rfl⟩ := e
    exact ⟨_, _, rfl, z.length, fun n b r' hl hk => ⟨BR.exact (plain_refl hz) _ _ rfl, vr_ptr hk⟩⟩
theorem aBox_sim (s : Sim fid r ρ ρ') {x : Opd} {vb : VB} {mk : Nat → Value} (e : aBox x ρ = some (vb, mk)) : ∃ blk mk', allocV ρ' (.box x) = some (blk, mk') ∧ AllocOk fid r vb mk blk mk' := by
  unfold aBox at e
  split at e
  · rename_i v hv
    cases hz : noTup v with
    | false => rw [hz] at e; cases e
    | true =>
      rw [hz] at e; simp only [cond_true, Option.some.injEq, Prod.mk.injEq] at e
      obtain ⟨rfl, rfl⟩ := e
      obtain ⟨v', h1, h2⟩ := s x _ hv
      refine ⟨.own 0 v'.cells.toList v'.cells.size, _, by simp only [allocV, h1], v'.cells.size, fun n b r' hl hk => ⟨BR.exact ?_ _ _ (by simp), vr_ptr hk⟩⟩
      exact (cells_rel (h2.one' hz)).mono fun _ _ q => q.mono hl
  · cases e
theorem aBslice_sim (s : Sim fid r ρ ρ') {n size : Nat} {z : List Value} {parts : List (Nat × Nat × Opd)} {vb : VB} {mk : Nat → Value} (e : aBslice n size z parts ρ = some (vb, mk)) :
    ∃ blk mk', allocV ρ' (.bslice n size z parts) = some (blk, mk') ∧ AllocOk fid r vb mk blk mk' := by
  unfold aBslice at e
  cases hz : z.all plain with
  | false => rw [hz] at e; cases e
  | true =>
    rw [hz] at e; simp only [cond_true] at e
    split at e
    · rename_i q hq
      obtain ⟨q', g1, g2⟩ := s.allP hq
      split at e
      · rename_i l hl
        simp only [Option.some.injEq, Prod.mk.injEq] at e
        obtain ⟨rfl, rfl⟩ := e
        cases hc : q.all (fun p => noTup p.2.2) with
        | false => rw [hc] at hl; cases hl
        | true =>
          rw [hc] at hl; simp only [cond_true] at hl
          obtain ⟨l', w1, w2⟩ := fillL_sim g2 hc (plain_refl (all_rep hz)) hl
          exact ⟨_, _, by simp only [allocV, g1, w1], l'.length, fun k b r' hle hk => ⟨BR.exact (w2.mono fun _ _ q => q.mono hle) _ _ rfl, vr_slice hk (Nat.le_refl _)⟩⟩
      · cases e
    · cases e
theorem aMslice_sim (s : Sim fid r ρ ρ') {bytes : Nat} {z : List Value} {l c : Opd} {vb : VB} {mk : Nat → Value} (e : aMslice bytes z l c ρ = some (vb, mk)) :
    ∃ blk mk', allocV ρ' (.mslice bytes z l c) = some (blk, mk') ∧ AllocOk fid r vb mk blk mk' := by
  unfold aMslice at e
  cases hz : z.all plain with
  | false => rw [hz] at e; cases e
  | true =>
    rw [hz] at e; simp only [cond_true] at e
    split at e
    · rename_i u w hu hw
      split at e
      · rename_i k1 l' k2 c' hl hc
        have h1 := s.int (by rw [hu, vInt_some hl])
        have h2 := s.int (by rw [hw, vInt_some hc])
        simp only at h1 h2
        split at e
        · rename_i hcond
          simp only [Option.some.injEq, Prod.mk.injEq] at e
          obtain ⟨rfl, rfl⟩ := e
          refine ⟨_, _, by simp only [allocV, h1, h2]; rw [if_pos hcond], c'.toNat * z.length, fun k b r' hle hk => ⟨BR.exact (plain_refl (all_rep hz)) _ _ (by rw [len_rep]), vr_slice hk (by omega)⟩⟩
        · cases e
      · cases e
    · cases e
theorem aMmap_sim {vb : VB} {mk : Nat → Value} (e : aMmap ρ = some (vb, mk)) : ∃ blk mk', allocV ρ' .mmap = some (blk, mk') ∧ AllocOk fid r vb mk blk mk' := by
  simp only [aMmap, Option.some.injEq, Prod.mk.injEq] at e
  obtain ⟨rfl, rfl⟩ := e
  exact ⟨_, _, rfl, 0, fun n b r' hl hk => ⟨.map .nil, .one (.one (.base (.map hk)))⟩⟩
end
end Go.Bb
