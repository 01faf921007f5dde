/- Reckoning: what writes, first part: a step that is sound; calls, stores, bytes. -/
import Derived.Test.YtgoifophjcbpaaaBbY1
namespace Go.Bb
set_option linter.unusedVariables false
set_option linter.unusedSimpArgs false

/-- What is told of calls is so. -/
def CallOk (E : Env) (h0 : Heap) (n : Nat) (f : List Value → VM → RV) : Prop := ∀ (args : List Value) (m : VM) (v : Value) (m' : VM) (r : Rr) (h : Heap) (args' : List Value), HS E.fid h0 r m h → All2 (VR E.fid r) args args' → f args m = some (v, m') →
  ACallN E n args' h fun v' h' => ∃ r', r.le r' ∧ HS E.fid h0 r' m' h' ∧ VR E.fid r' v v'
def CallsOk (E : Env) (h0 : Heap) (call : CallE) : Prop := ∀ n, CallOk E h0 n (call n)

section
variable {has : Nat → Bool} {E : Env} {h0 : Heap} {r : Rr} {m m' : VM} {h : Heap} {ρ ρ' : Opd → Option Value} {v : Value} {call : CallE} {K : Value → Heap → Prop}

def After (E : Env) (h0 : Heap) (r : Rr) (m' : VM) (v : Value) (K : Value → Heap → Prop) : Prop := ∀ v' h' r', r.le r' → HS E.fid h0 r' m' h' → VR E.fid r' v v' → K v' h'

theorem undef_rel : VR E.fid r undef undef := .tup .nil

theorem alloc_step {op : AOp} {f : Ev → AV} (ha : op.isA = true) (hf : ∀ vb mk, f ρ = some (vb, mk) → ∃ blk mk', allocV ρ' op = some (blk, mk') ∧ AllocOk E.fid r vb mk blk mk') (p : HS E.fid h0 r m h)
    (e : wAlloc f call ρ m = some (v, m')) : ∃ blk mk', allocV ρ' op = some (blk, mk') ∧ ∀ b, h b = none → ∃ r', r.le r' ∧ HS E.fid h0 r' m' (h.set b blk) ∧ VR E.fid r' v (mk' b) := by
  unfold wAlloc at e
  split at e
  · rename_i vb mk hfv
    obtain ⟨hn, rfl, rfl⟩ := newE_some e
    obtain ⟨blk, mk', h1, sz, h2⟩ := hf vb mk hfv
    refine ⟨blk, mk', h1, fun b hb => ?_⟩
    have hle : r.le (r.more m.next ⟨b, 0, sz, 0⟩) := Rr.le_more (p.fresh _ (Nat.le_refl _))
    obtain ⟨g1, g2⟩ := h2 m.next b _ hle (by simp [Rr.more])
    obtain ⟨q, _⟩ := p.alloc (k := ⟨b, 0, sz, 0⟩) hn hb g1
    exact ⟨_, hle, q, g2⟩
  · cases e

theorem step_alloc_sim {op : AOp} {f : Ev → AV} (ha : op.isA = true) (hf : ∀ vb mk, f ρ = some (vb, mk) → ∃ blk mk', allocV ρ' op = some (blk, mk') ∧ AllocOk E.fid r vb mk blk mk') (p : HS E.fid h0 r m h)
    (e : wAlloc f call ρ m = some (v, m')) (q : After E h0 r m' v K) : step E ρ' h op K := by
  obtain ⟨blk, mk', h1, h2⟩ := alloc_step ha hf p e
  rw [step_A ha, h1, withA_some]
  intro b hb
  obtain ⟨r', g1, g2, g3⟩ := h2 b hb
  exact q _ _ r' g1 g2 g3

theorem one0 {fid : Nat → Option FuncId} {v v' : Value} (p : VR0 fid r v v') : one v' = true := by
  cases p with
  | base p => cases p with
    | plain p => cases v <;> first | rfl | (cases p; done)
    | ptr _ _ => rfl
    | slice _ _ _ _ _ => rfl
    | map _ => rfl
  | func _ _ _ => rfl
theorem one_all {fid : Nat → Option FuncId} : ∀ {l l' : List Value}, All2 (VR0 fid r) l l' → ∀ u ∈ l', one u = true
  | _, _, .nil => by simp
  | _, _, .cons x t => by
    intro u hu
    simp only [List.mem_cons] at hu
    rcases hu with rfl | hu
    · exact one0 x
    · exact one_all t u hu
theorem tup_one {v : Value} (h : v.cells.toList.all one = true) : noTup v = true := by
  cases v <;> first | rfl | (simp [Value.cells, one] at h)

theorem wStore_sim (s : Sim E.fid r ρ ρ') (p : HS E.fid h0 r m h) {size : Nat} {a x : Opd} (e : wStore size a x call ρ m = some (v, m')) (q : After E h0 r m' v K) : step E ρ' h (.store size a x) K := by
  unfold wStore at e
  split at e
  · rename_i ad u ha hx
    obtain ⟨a', h1, h2⟩ := s a _ ha
    obtain ⟨k, hs, hk, rfl⟩ := h2.of_ptr
    obtain ⟨u', h3, h4⟩ := s x _ hx
    cases hc : (Nat.beq u.cells.size size && u.cells.toList.all one) with
    | false => rw [hc] at e; cases e
    | true =>
      rw [hc] at e; simp only [cond_true] at e
      simp only [Bool.and_eq_true] at hc
      obtain ⟨hc1, hc2⟩ := hc
      have hc1 := Nat.eq_of_beq_eq_true hc1
      have hr := cells_rel (h4.one' (tup_one hc2))
      rw [Option.map_eq_some_iff] at e
      obtain ⟨m2, hm, hh⟩ := e
      simp only [Prod.mk.injEq] at hh
      obtain ⟨rfl, rfl⟩ := hh
      obtain ⟨h', g1, g2⟩ := store_sim p hk hr hm
      have hlen := hr.length
      simp only [step, stepW, h1, h3]
      refine ⟨by rw [← hc1, ← Array.length_toList, ← Array.length_toList, hlen], one_all hr, ?_⟩
      rw [show (⟨k.b, ad.off + k.sh, none⟩ : Addr) = k.at ad from rfl, g1]
      exact q _ _ r (Rr.le_refl _) g2 undef_rel
  · cases e

theorem wCall_sim (hc : CallsOk E h0 call) (s : Sim E.fid r ρ ρ') (p : HS E.fid h0 r m h) {n : Nat} {args : List Opd} (e : wCall n args call ρ m = some (v, m')) (q : After E h0 r m' v K) : step E ρ' h (.call n args) K := by
  unfold wCall at e
  split at e
  · rename_i vs hvs
    obtain ⟨vs', g1, g2⟩ := s.allV hvs
    simp only [step, stepW, g1]
    exact (hc n vs m v m' r h vs' p g2 e).mono fun v' h' ⟨r', a, b, c⟩ => q v' h' r' a b c
  · cases e

theorem All2.lift {fid : Nat → Option FuncId} {l l' : List Value} (h : All2 (VRb r) l l') : All2 (VR fid r) l l' := h.mono fun _ _ x => .one (.one (.base x))

theorem wCallv_sim (hc : CallsOk E h0 call) (s : Sim E.fid r ρ ρ') (p : HS E.fid h0 r m h) {f : Opd} {args : List Opd} (e : wCallv f args call ρ m = some (v, m')) (q : After E h0 r m' v K) : step E ρ' h (.callv f args) K := by
  unfold wCallv at e
  split at e
  · rename_i n first cap vs hf hvs
    obtain ⟨vs', g1, g2⟩ := s.allV hvs
    obtain ⟨f', g3, g4⟩ := s f _ hf
    obtain ⟨n', g, a', c', hn, hg, rfl, ha, hcap⟩ := g4.of_fn
    cases hn
    simp only [step, stepW, g1, g3]
    refine ⟨⟨n, hg⟩, ?_⟩
    exact (hc n _ m v m' r h (a'.toList ++ vs' ++ c'.toList) p ((ha.lift.append g2).append hcap.lift) e).mono (fun v' h' ⟨r', a, b, c⟩ => q v' h' r' a b c) g hg
  · cases e

theorem bytes_rel {fid : Nat → Option FuncId} (l : List UInt8) : All2 (VR0 fid r) (l.map fun b => Value.int .u8 b.toNat) (l.map fun b => Value.int .u8 b.toNat) :=
  All2.refl fun a ha => by
    simp only [List.mem_map] at ha
    obtain ⟨b, _, rfl⟩ := ha
    exact .base (.plain rfl)

theorem BR.grow {fid : Nat → Option FuncId} {vs vs' : List Value} {b es c : Nat} (hv : All2 (VR0 fid r) vs vs') (he : es ≠ 0) (hl : vs'.length ≤ c * es) : BR fid r ⟨b, 0, c * es, es⟩ (.cells es vs) (.own 0 vs' (c * es)) := by
  have := BR.cells (fid := fid) (r := r) (k := ⟨b, 0, c * es, es⟩) (es := es) (vs := vs) (pre := []) (vs' := vs') (rest := []) rfl rfl hv (fun z => absurd z he) (by simpa using hl)
  simpa using this
theorem vr_grow {fid : Nat → Option FuncId} {n b l c es : Nat} (hk : r n = some ⟨b, 0, c * es, es⟩) (he : es ≠ 0) (hl : l ≤ c) (q : Nat) : VR fid r (.slice (some ⟨n, 0, none⟩) l q) (.slice (some ⟨b, 0, none⟩) l c) :=
  .one (.one (.base (.slice (a := ⟨n, 0, none⟩) (k := ⟨b, 0, c * es, es⟩) (n := l) (c := q) (c' := c) (o := 0) rfl hk hl (fun h => absurd h he) (fun _ => ⟨by simp, fun _ => rfl⟩))))

/-- A new block that may grow. -/
theorem grow_sim (p : HS E.fid h0 r m h) {vs vs' : List Value} {es c l b : Nat} (he : es ≠ 0) (hb : h b = none) (hv : All2 (VR0 E.fid r) vs vs') (hl : l ≤ c) (hlen : vs'.length ≤ c * es) (e : newE m (.cells es vs) (fun b => .slice (some ⟨b, 0, none⟩) l 0) = some (v, m')) :
    ∃ r', r.le r' ∧ HS E.fid h0 r' m' (h.set b (.own 0 vs' (c * es))) ∧ VR E.fid r' v (.slice (some ⟨b, 0, none⟩) l c) := by
  obtain ⟨hn, rfl, rfl⟩ := newE_some e
  have hle : r.le (r.more m.next ⟨b, 0, c * es, es⟩) := Rr.le_more (p.fresh _ (Nat.le_refl _))
  obtain ⟨q, _⟩ := p.alloc (k := ⟨b, 0, c * es, es⟩) (x := .cells es vs) (y := .own 0 vs' (c * es)) hn hb (BR.grow (hv.mono fun _ _ x => x.mono hle) he hlen)
  exact ⟨_, hle, q, vr_grow (by simp [Rr.more]) he hl 0⟩

theorem wBytes_sim (s : Sim E.fid r ρ ρ') (p : HS E.fid h0 r m h) {x : Opd} (e : wBytes x call ρ m = some (v, m')) (q : After E h0 r m' v K) : step E ρ' h (.bytesOf x) K := by
  unfold wBytes at e
  split at e
  · rename_i b hb
    simp only [step, stepW, s.str hb]
    intro bn c' hfree hle
    obtain ⟨r', g1, g2, g3⟩ := grow_sim (c := c') p (by omega) hfree (bytes_rel b.data.toList) hle (by simp; exact hle) e
    rw [Nat.mul_one] at g2
    exact q _ _ r' g1 g2 g3
  · cases e

theorem wMark_sim (s : Sim E.fid r ρ ρ') (p : HS E.fid h0 r m h) {x : Opd} (e : wMark x call ρ m = some (v, m')) (q : After E h0 r m' v K) : step E ρ' h (.mark x) K := by
  unfold wMark at e
  split at e
  · rename_i a n c hx
    obtain ⟨x', h1, h2⟩ := s x _ hx
    obtain ⟨k, c', o, hs, hk, rfl, _⟩ := h2.of_sl
    split at e
    · rename_i es vs hg
      simp only [Option.some.injEq, Prod.mk.injEq] at e
      obtain ⟨rfl, rfl⟩ := e
      obtain ⟨y, hy, hb⟩ := HR.at (p := p.toHR) hk hg
      cases hb with
      | cells he hp hv h00 hz =>
        simp only [step, stepW, h1, hy]
        exact q _ _ r (Rr.le_refl _) p h2
    · cases e
  · cases e
end
end Go.Bb
