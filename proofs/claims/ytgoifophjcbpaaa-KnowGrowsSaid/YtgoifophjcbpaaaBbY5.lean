/- Reckoning: regions. -/
import Derived.Test.YtgoifophjcbpaaaBbY4
namespace Go.Bb
set_option linter.unusedVariables false
set_option linter.unusedSimpArgs false

/-- Temporaries on both sides. -/
def TS (fid : Nat → Option FuncId) (r : Rr) (tE : TL) (t : T) : Prop := ∀ i v, TL.get tE i = some v → ∃ v', t i = some v' ∧ VR fid r v v'

section
variable {has : Nat → Bool} {E : Env} {h0 : Heap} {r : Rr} {m m' : VM} {h : Heap} {v : Value} {call : CallE} {fid : Nat → Option FuncId} {tE tE' : TL} {t : T}

theorem TS.mono {r' : Rr} (s : TS fid r tE t) (hl : r.le r') : TS fid r' tE t := fun i v h => by
  obtain ⟨v', h1, h2⟩ := s i v h; exact ⟨v', h1, h2.mono hl⟩
theorem TL.get_cons (p : Nat × Value) (t : TL) (i : Nat) : TL.get (p :: t) i = if i = p.1 then some p.2 else TL.get t i := by
  have e : TL.get (p :: t) i = Bool.rec (motive := fun _ => Option Value) (TL.get t i) (some p.2) (Nat.beq i p.1) := rfl
  rw [e, brecN]
theorem TS.put (s : TS fid r tE t) {d : Option Nat} {v v' : Value} (hv : VR fid r v v') : TS fid r (TL.put tE d v) (tput t d v') := by
  cases d with
  | none => exact s
  | some d =>
    intro i u hu
    simp only [TL.put] at hu
    rw [TL.get_cons] at hu
    simp only [tput]
    by_cases e : i = d
    · simp only [e, if_true, Option.some.injEq] at hu ⊢; subst hu; exact ⟨v', rfl, hv⟩
    · simp only [e, if_false] at hu ⊢; exact s i u hu
theorem TS.sim (hh : Has has fid) (s : TS fid r tE t) : Sim fid r (oevE has tE) (oev fid t) := by
  intro x v h
  cases x with
  | t i => exact s i v h
  | c u =>
    simp only [oevE] at h
    cases hc : constOk u with
    | false => rw [hc] at h; cases h
    | true =>
      rw [hc] at h; simp only [Option.some.injEq] at h; subst h
      exact ⟨u, rfl, .one (VR1.const hc)⟩
  | f n =>
    simp only [oevE] at h
    cases hc : has n with
    | false => rw [hc] at h; cases h
    | true =>
      rw [hc] at h; simp only [cond_true, Option.some.injEq] at h; subst h
      obtain ⟨g, hg⟩ := hh n hc
      exact ⟨.func (.func g) #[] #[], by simp only [oev, hg, Option.map_some], .one (.one (.func hg .nil .nil))⟩

theorem TL.keep_cons (k : Nat) (ks : List Nat) (t : TL) : TL.keep (k :: ks) t = match TL.get t k with | some v => (k, v) :: TL.keep ks t | none => TL.keep ks t := by
  have e : TL.keep (k :: ks) t = Option.rec (motive := fun _ => TL) (TL.keep ks t) (fun v => (k, v) :: TL.keep ks t) (TL.get t k) := rfl
  rw [e]; cases TL.get t k <;> rfl
theorem TL.get_keep : ∀ {ks : List Nat} {t : TL} {i : Nat} {v : Value}, TL.get (TL.keep ks t) i = some v → i ∈ ks ∧ TL.get t i = some v
  | [], t, i, v, h => by cases h
  | k :: ks, t, i, v, h => by
    rw [TL.keep_cons] at h
    split at h
    · rename_i u hu
      rw [TL.get_cons] at h
      by_cases e : i = k
      · simp only [e, if_true, Option.some.injEq] at h ⊢; subst h; exact ⟨by simp, hu⟩
      · simp only [e, if_false] at h
        obtain ⟨h1, h2⟩ := TL.get_keep h
        exact ⟨by simp [h1], h2⟩
    · obtain ⟨h1, h2⟩ := TL.get_keep h
      exact ⟨by simp [h1], h2⟩
theorem tkeep_get : ∀ (ks : List Nat) (t : T) (i : Nat) (v : Value), i ∈ ks → t i = some v → tkeep ks t i = some v
  | [], t, i, v, hi, hv => by cases hi
  | k :: ks, t, i, v, hi, hv => by
    unfold tkeep
    simp only [List.filterMap_cons]
    by_cases e : i = k
    · subst e; rw [hv]; simp [tl]
    · have hi' : i ∈ ks := by simpa [e] using hi
      have := tkeep_get ks t i v hi' hv
      unfold tkeep at this
      cases hk : t k with
      | none => simpa using this
      | some u => simp only [Option.map_some, tl]; rw [if_neg e]; exact this
theorem TS.keep (s : TS fid r tE t) (ks : List Nat) : TS fid r (TL.keep ks tE) (tkeep ks t) := by
  intro i v h
  obtain ⟨h1, h2⟩ := TL.get_keep h
  obtain ⟨v', h3, h4⟩ := s i v h2
  exact ⟨v', tkeep_get ks t i v' h1 h3, h4⟩

/-! ### in the text's order -/
theorem ops_sim (hh : Has has E.fid) (hc : CallsOk E h0 call) : ∀ (os : List AOper) {tE tE' : TL} {m m' : VM} {r : Rr} {h : Heap} {t : T} {R : T → Heap → Prop}, evOps has call os tE m = some (tE', m') → HS E.fid h0 r m h → TS E.fid r tE t →
    (∀ t' h' r', r.le r' → HS E.fid h0 r' m' h' → TS E.fid r' tE' t' → R t' h') → runOps E os R t h
  | [], tE, tE', m, m', r, h, t, R, e, p, s, q => by
    have e : some (tE, m) = some (tE', m') := e
    simp only [Option.some.injEq, Prod.mk.injEq] at e
    obtain ⟨rfl, rfl⟩ := e
    exact q _ _ r (Rr.le_refl _) p s
  | o :: os, tE, tE', m, m', r, h, t, R, e, p, s, q => by
    have e : oneOps has call o (evOps has call os) tE m = some (tE', m') := e
    have go : goOps has call o (evOps has call os) tE m = some (tE', m') → step E (oev E.fid t) h o.op fun v h' => runOps E os R (tput t o.dst v) h' := by
      intro e
      unfold goOps at e
      split at e
      · rename_i v m2 hv
        refine step_sim hh hc (s.sim hh) p hv fun v' h' r' hl p' hvr => ?_
        exact ops_sim hh hc os e p' ((s.mono hl).put hvr) fun t2 h2 r2 hl2 p2 s2 => q t2 h2 r2 (Rr.le_trans hl hl2) p2 s2
      · cases e
    unfold oneOps at e
    unfold runOps
    split at e
    · rename_i hg; rw [hg]; exact go e
    · rename_i g want hg
      rw [hg]
      simp only
      split at e
      · rename_i b hb
        obtain ⟨b', h1, h2⟩ := s g _ hb
        rw [h2.of_bool] at h1
        rw [h1]
        simp only
        cases hbw : (b == want) with
        | true =>
          rw [hbw] at e; simp only [cond_true] at e
          rw [if_pos (by simpa using hbw)]; exact go e
        | false =>
          rw [hbw] at e; simp only [cond_false] at e
          rw [if_neg (by simpa using hbw)]
          exact ops_sim hh hc os e p (s.put undef_rel) q
      · cases e

/-! ### in an order that is drawn -/
inductive HistR (fid : Nat → Option FuncId) (r : Rr) : List VM → List Heap → Prop
  | nil : HistR fid r [] []
  | cons {m : VM} {h : Heap} {ms : List VM} {hs : List Heap} (p : HR fid r m h) (t : HistR fid r ms hs) : HistR fid r (m :: ms) (h :: hs)
theorem HistR.mono {r r' : Rr} (hl : r.le r') : ∀ {ms : List VM} {hs : List Heap}, HistR fid r ms hs → HistR fid r' ms hs
  | _, _, .nil => .nil
  | _, _, .cons p t => .cons (p.mono hl) (t.mono hl)
theorem HistR.take : ∀ (n : Nat) {ms : List VM} {hs : List Heap}, HistR fid r ms hs → HistR fid r (ms.take n) (hs.take n)
  | 0, _, _, _ => by simp; exact .nil
  | _ + 1, _, _, .nil => by simp; exact .nil
  | n + 1, _, _, .cons p t => by simp; exact .cons p (t.take n)

theorem sameV0_eq {a b a' b' : Value} (e : sameV0 a b = true) (ha : VR fid r a a') (hb : VR fid r b b') : a' = b' := by
  unfold sameV0 at e
  split at e
  · simp only [Bool.and_eq_true, decide_eq_true_eq] at e
    rw [ha.of_int, hb.of_int, e.1, e.2]
  · rw [ha.of_bool, hb.of_bool]; simpa using e
  · rw [ha.of_str, hb.of_str]
    rename_i x y
    have : x.data.toList = y.data.toList := by simpa using e
    have : x = y := by
      cases x; cases y
      simp only [ByteArray.mk.injEq] at this ⊢
      exact Array.ext' this
    rw [this]
  · rename_i x y
    simp only [decide_eq_true_eq] at e
    subst e
    cases x with
    | none => rw [ha.of_ptr0, hb.of_ptr0]
    | some x =>
      obtain ⟨k, _, hk, rfl⟩ := ha.of_ptr
      obtain ⟨k', _, hk', rfl⟩ := hb.of_ptr
      rw [hk] at hk'; simp only [Option.some.injEq] at hk'; subst hk'; rfl
  · rename_i x n c y n' c'
    simp only [Bool.and_eq_true, decide_eq_true_eq] at e
    obtain ⟨rfl, e2, e3, e4⟩ := e
    have e2 := Nat.eq_of_beq_eq_true e2
    have e3 := Nat.eq_of_beq_eq_true e3
    subst e2; subst e3
    cases x with
    | none => rw [ha.of_sl0, hb.of_sl0]
    | some x =>
      have hn : 0 < n := by simp [Nat.blt] at e4; omega
      obtain ⟨k, c1, o1, _, hk, rfl, l1, q0, q1⟩ := ha.of_sl
      obtain ⟨k', c2, o2, _, hk', rfl, l2, w0, w1⟩ := hb.of_sl
      rw [hk] at hk'; simp only [Option.some.injEq] at hk'; subst hk'
      by_cases z : k.es = 0
      · obtain ⟨rfl, rfl⟩ := q0 z
        obtain ⟨rfl, rfl⟩ := w0 z
        rfl
      · obtain ⟨u1, u2⟩ := q1 z
        obtain ⟨u3, u4⟩ := w1 z
        have : c1 * k.es = c2 * k.es := by omega
        have hc := Nat.eq_of_mul_eq_mul_right (by omega) this
        subst hc
        rw [u2 (by omega), u4 (by omega)]
  · rename_i x y
    simp only [decide_eq_true_eq] at e
    subst e
    cases x with
    | none => rw [ha.of_map0, hb.of_map0]
    | some x =>
      obtain ⟨k, hk, rfl⟩ := ha.of_map
      obtain ⟨k', hk', rfl⟩ := hb.of_map
      rw [hk] at hk'; simp only [Option.some.injEq] at hk'; subst hk'; rfl
  · cases e
theorem sameL_eq {S : Value → Value → Prop} (hS : ∀ a b, S a b → VR fid r a b) : ∀ {a b a' b' : List Value}, sameL a b = true → All2 S a a' → All2 S b b' → a' = b'
  | [], [], _, _, _, .nil, .nil => rfl
  | _ :: _, _ :: _, _, _, e, .cons x t, .cons y u => by
    simp only [sameL, Bool.and_eq_true] at e
    rw [sameV0_eq e.1 (hS _ _ x) (hS _ _ y), sameL_eq hS e.2 t u]
  | [], _ :: _, _, _, e, _, _ => by simp [sameL] at e
  | _ :: _, [], _, _, e, _, _ => by simp [sameL] at e
theorem sameV_eq {a b a' b' : Value} (e : sameV a b = true) (ha : VR fid r a a') (hb : VR fid r b b') : a' = b' := by
  unfold sameV at e
  split at e
  · obtain ⟨x, rfl, hx⟩ := ha.of_agg
    obtain ⟨y, rfl, hy⟩ := hb.of_agg
    rw [Array.ext' (sameL_eq (fun _ _ q => .one (.one q)) e hx hy)]
  · obtain ⟨x, rfl, hx⟩ := ha.of_tup
    obtain ⟨y, rfl, hy⟩ := hb.of_tup
    rw [Array.ext' (sameL_eq (fun _ _ q => .one q) e hx hy)]
  · exact sameV0_eq e ha hb

theorem pureV_still {ρ : Opd → Option Value} {g h : Heap} {op : AOp} (e : memOp op = false) : pureV fid ρ g op = pureV fid ρ h op := by
  cases op <;> first | rfl | (cases e; done)

theorem back_sim (hh : Has has E.fid) {ρ ρ' : Opd → Option Value} (s : Sim E.fid r ρ ρ') {op : AOp} {v v' : Value} {back : Nat} {ms : List VM} {hs : List Heap} {hb : Heap} (hist : HistR E.fid r ms hs) (hv : VR E.fid r v v') (hp : pureV E.fid ρ' hb op = some v')
    (e : backOk has ρ op v back ms = true) : ∀ g ∈ hs.take back, pureV E.fid ρ' g op = some v' := by
  unfold backOk at e
  cases hm : memOp op with
  | false => intro g _; rw [pureV_still hm (h := hb)]; exact hp
  | true =>
    rw [hm] at e
    simp only [Bool.not_true, Bool.false_or] at e
    have key : ∀ {ms : List VM} {hs : List Heap}, HistR E.fid r ms hs → (ms.all fun g => match (boxP has op).f ρ g with | some u => sameV u v | none => false) = true → ∀ g ∈ hs, pureV E.fid ρ' g op = some v' := by
      intro ms hs hi
      induction hi with
      | nil => intro _ g hg; cases hg
      | cons p t ih =>
        intro hall g hg
        simp only [List.all_cons, Bool.and_eq_true] at hall
        simp only [List.mem_cons] at hg
        rcases hg with rfl | hg
        · have h1 := hall.1
          split at h1
          · rename_i u hu
            obtain ⟨u', w1, w2⟩ := pure_sim hh s p hu
            rw [w1, sameV_eq h1 w2 hv]
          · cases h1
        · exact ih hall.2 g hg
    exact key (hist.take back) e

theorem quiet_of {op : AOp} {ρ : Ev} {m : VM} {v : Value} (e : (boxP has op).f ρ m = some v) : op.quiet = true := by
  cases op <;> first | rfl | (cases e; done)

theorem dops_sim (hh : Has has E.fid) (hc : CallsOk E h0 call) : ∀ (os : List DOper) {tE tE' : TL} {m m' mb : VM} {hist : List VM} {r : Rr} {h hb : Heap} {hs : List Heap} {t : T} {R : T → Heap → Prop}, evD has call os tE m mb hist = some (tE', m') →
    HS E.fid h0 r m h → HR E.fid r mb hb → HistR E.fid r hist hs → TS E.fid r tE t →
    (∀ t' h' r', r.le r' → HS E.fid h0 r' m' h' → TS E.fid r' tE' t' → R t' h') → runD E os R t h hb hs
  | [], tE, tE', m, m', mb, hist, r, h, hb, hs, t, R, e, p, pb, ph, s, q => by
    have e : some (tE, m) = some (tE', m') := e
    simp only [Option.some.injEq, Prod.mk.injEq] at e
    obtain ⟨rfl, rfl⟩ := e
    exact q _ _ r (Rr.le_refl _) p s
  | o :: os, tE, tE', m, m', mb, hist, r, h, hb, hs, t, R, e, p, pb, ph, s, q => by
    have e : oneDE has call o (evD has call os) tE m mb hist = some (tE', m') := e
    have go : goDE has call o (evD has call os) tE m mb hist = some (tE', m') → goD E o t h hb hs (runD E os R) := by
      intro e
      unfold goDE at e
      unfold goD
      cases hW : o.op.isW with
      | true =>
        rw [hW] at e; simp only [cond_true] at e
        rw [if_pos rfl]
        split at e
        · rename_i v m2 hv
          refine step_sim hh hc (s.sim hh) p hv fun v' h' r' hl p' hvr => ?_
          exact dops_sim hh hc os e p' p'.toHR (.cons (pb.mono hl) (ph.mono hl)) ((s.mono hl).put hvr) fun t2 h2 r2 hl2 p2 s2 => q t2 h2 r2 (Rr.le_trans hl hl2) p2 s2
        · cases e
      | false =>
        rw [hW] at e; simp only [cond_false] at e
        rw [if_neg (by simp)]
        cases hA : o.op.isA with
        | true =>
          rw [hA] at e; simp only [cond_true] at e
          rw [if_pos rfl]
          split at e
          · rename_i v m2 hv
            have al : ∃ blk mk', allocV (oev E.fid t) o.op = some (blk, mk') ∧ ∀ b, h b = none → ∃ r', r.le r' ∧ HS E.fid h0 r' m2 (h.set b blk) ∧ VR E.fid r' v (mk' b) := by
              have s' := s.sim hh
              generalize o.op = op at hA hv
              cases op with
              | alloc z => exact alloc_step (call := call) (f := aAlloc z) rfl (fun _ _ => aAlloc_sim) p hv
              | box x => exact alloc_step (call := call) (f := aBox x) rfl (fun _ _ => aBox_sim s') p hv
              | bslice n size z ps => exact alloc_step (call := call) (f := aBslice n size z ps) rfl (fun _ _ => aBslice_sim s') p hv
              | mslice b z l c => exact alloc_step (call := call) (f := aMslice b z l c) rfl (fun _ _ => aMslice_sim s') p hv
              | mmap => exact alloc_step (call := call) (ρ := oevE has tE) (f := aMmap) rfl (fun _ _ => aMmap_sim) p hv
              | _ => cases hA
            obtain ⟨blk, mk', h1, h2⟩ := al
            rw [h1]
            intro b hb'
            obtain ⟨r', hl, p', hvr⟩ := h2 b hb'
            exact dops_sim hh hc os e p' (pb.mono hl) (ph.mono hl) ((s.mono hl).put hvr) fun t2 h2 r2 hl2 p2 s2 => q t2 h2 r2 (Rr.le_trans hl hl2) p2 s2
          · cases e
        | false =>
          rw [hA] at e; simp only [cond_false] at e
          rw [if_neg (by simp)]
          split at e
          · rename_i v hv
            cases hbk : backOk has (oevE has tE) o.op v o.back hist with
            | false => rw [hbk] at e; cases e
            | true =>
              rw [hbk] at e; simp only [cond_true] at e
              obtain ⟨v', w1, w2⟩ := pure_sim hh (s.sim hh) pb hv
              rw [w1]
              exact ⟨back_sim hh (s.sim hh) ph w2 w1 hbk, dops_sim hh hc os e p pb ph (s.put w2) q⟩
          · cases e
    unfold oneDE at e
    simp only [runD]
    unfold oneD
    split at e
    · rename_i hg; rw [hg]; exact go e
    · rename_i g want hg
      rw [hg]
      simp only
      split at e
      · rename_i b hb'
        obtain ⟨b', h1, h2⟩ := s g _ hb'
        rw [h2.of_bool] at h1
        rw [h1]
        simp only
        cases hbw : (b == want) with
        | true =>
          rw [hbw] at e; simp only [cond_true] at e
          rw [if_pos (by simpa using hbw)]; exact go e
        | false =>
          rw [hbw] at e; simp only [cond_false] at e
          rw [if_neg (by simpa using hbw)]
          unfold skipD
          cases hW : o.op.isW with
          | true => rw [hW] at e; exact dops_sim hh hc os e p pb (.cons pb ph) (s.put undef_rel) q
          | false => rw [hW] at e; exact dops_sim hh hc os e p pb ph (s.put undef_rel) q
      · cases e
end
end Go.Bb
