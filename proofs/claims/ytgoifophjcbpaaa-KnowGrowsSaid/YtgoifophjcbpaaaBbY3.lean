/- Reckoning: append, copy. -/
import Derived.Test.YtgoifophjcbpaaaBbY2
namespace Go.Bb
set_option linter.unusedVariables false
set_option linter.unusedSimpArgs false

section
variable {has : Nat → Bool} {E : Env} {h0 : Heap} {r : Rr} {m m' : VM} {h : Heap} {ρ ρ' : Opd → Option Value} {v : Value} {call : CallE} {K : Value → Heap → Prop} {fid : Nat → Option FuncId}

/-- The cells of a slice on the other side. -/
theorem sl_cells (p : HR fid r m h) {a : Addr} {n c : Nat} {v' : Value} (hv : VR fid r (.slice (some a) n c) v') {i size : Nat} (hi : i ≤ n) {l : List Value} (e : cellsE m a (i * size) = some l) :
    ∃ k c' o, a.spot = none ∧ r a.block = some k ∧ v' = .slice (some ⟨k.b, o, none⟩) n c' ∧ ∃ l', hcells h ⟨k.b, o, none⟩ (i * size) = some l' ∧ All2 (VR0 fid r) l l' := by
  obtain ⟨k, c', o, hs, hk, rfl, hn, q0, q1⟩ := hv.of_sl
  refine ⟨k, c', o, hs, hk, rfl, ?_⟩
  obtain ⟨l', g1, g2⟩ := cells_sim p hk e
  by_cases hz : i * size = 0
  · have : l' = [] := by have := hcells_length g1; rw [hz] at this; exact List.eq_nil_of_length_eq_zero this
    subst this
    exact ⟨[], by rw [hz]; rfl, g2⟩
  · have hi0 : i ≠ 0 := by intro h; rw [h] at hz; simp at hz
    have ho : o = a.off + k.sh := by
      by_cases z : k.es = 0
      · exact (q0 z).2
      · exact (q1 z).2 (by omega)
    rw [ho]; exact ⟨l', g1, g2⟩

theorem readX_sim (p : HR fid r m h) {size k : Nat} {x x' : Value} {news : List Value} (hx : VR fid r x x') (e : readXE m size x = some (k, news)) :
    ∃ news', readX h size x' = some (k, news') ∧ All2 (VR0 fid r) news news' ∧ news'.length = k * size := by
  unfold readXE at e
  split at e
  · rw [hx.of_sl0]
    split at e
    · rename_i hn
      simp only [Option.some.injEq, Prod.mk.injEq] at e
      obtain ⟨rfl, rfl⟩ := e
      exact ⟨[], by simp [readX, hn], .nil, by simp⟩
    · cases e
  · rename_i a n c
    rw [Option.map_eq_some_iff] at e
    obtain ⟨l, hl, hh⟩ := e
    simp only [Prod.mk.injEq] at hh
    obtain ⟨rfl, rfl⟩ := hh
    obtain ⟨kk, c', o, hs, hk, rfl, l', g1, g2⟩ := sl_cells p hx (Nat.le_refl _) hl
    exact ⟨l', by simp only [readX, g1, Option.map_some], g2, hcells_length g1⟩
  · rename_i s
    rw [hx.of_str]
    split at e
    · rename_i h1
      simp only [Option.some.injEq, Prod.mk.injEq] at e
      obtain ⟨rfl, rfl⟩ := e
      exact ⟨_, by simp [readX, h1], bytes_rel _, by simp [h1]⟩
    · cases e
  · cases e

/-- A block that grows where it stands. -/
theorem regrow_sim (p : HS E.fid h0 r m h) {a : Addr} {k : Rm} {vs old old' news news' : List Value} {n q c size : Nat} (hk : r a.block = some k) (hx : m.get a.block = some (.cells k.es vs)) (hes : k.es = size) (hpos : size ≠ 0) (hsp : a.spot = none)
    (hw : a.off + k.sh + c * k.es = k.sz) (hfit : n + q ≤ c) (hq : q ≠ 0) (hof : a.off ≤ vs.length) (hold : cellsE m a (n * size) = some old) (hn : All2 (VR0 E.fid r) news news') (hlen : news'.length = q * size)
    (e : newE (m.set a.block none) (.cells size (old ++ news)) (fun b => .slice (some ⟨b, 0, none⟩) (n + q) 0) = some (v, m')) :
    ∃ h', hstore h (((⟨k.b, a.off + k.sh, none⟩ : Addr)).add (n * size)) news' = some h' ∧ ∃ r', r.le r' ∧ HS E.fid h0 r' m' h' ∧ VR E.fid r' v (.slice (some ⟨k.b, a.off + k.sh, none⟩) (n + q) c) := by
  obtain ⟨y, hy, hb⟩ := HR.at (p := p.toHR) hk hx
  cases hb with
  | cells he hp hv h00 hz =>
    rename_i pre vs' rest
    obtain ⟨old', ho1, ho2⟩ := cells_sim p.toHR hk hold
    have hlv := hv.length
    have hmul : (n + q) * size ≤ c * size := Nat.mul_le_mul_right _ hfit
    have hadd : (n + q) * size = n * size + q * size := Nat.add_mul _ _ _
    -- the old cells
    have hon : a.off + n * size ≤ vs'.length := by
      by_cases z : n * size = 0
      · omega
      · have : ∃ j, n * size = j + 1 := ⟨n * size - 1, by omega⟩
        obtain ⟨j, hj⟩ := this
        rw [hj] at hold
        simp only [cellsE] at hold
        rw [hsp] at hold
        simp only [hx] at hold
        obtain ⟨_, hle⟩ := takeE_some hold
        simp only [List.length_drop] at hle
        omega
    have hold' : old' = (vs'.drop a.off).take (n * size) := by
      by_cases z : n * size = 0
      · have := hcells_length ho1
        rw [z] at this ⊢
        simp [List.eq_nil_of_length_eq_zero this]
      · obtain ⟨j, hj⟩ : ∃ j, n * size = j + 1 := ⟨n * size - 1, by omega⟩
        rw [hj] at ho1 ⊢
        simp only [hcells, hy] at ho1
        split at ho1
        · simp only [Option.some.injEq] at ho1
          rw [← ho1, Nat.sub_zero, ← hp, List.append_assoc, List.drop_append, List.drop_eq_nil_of_le (by omega), List.nil_append, Nat.add_sub_cancel, List.drop_append_of_le_length (by omega), List.take_append_of_le_length (by simp; omega)]
        · cases ho1
    rw [hes] at hw
    have hne : news' ≠ [] := by
      intro hh
      have hz0 : q * size = 0 := by rw [← hlen, hh]; rfl
      rcases Nat.mul_eq_zero.1 hz0 with h | h
      · exact hq h
      · exact hpos h
    obtain ⟨u, us, hus⟩ : ∃ u us, news' = u :: us := by
      cases news' with
      | nil => exact absurd rfl hne
      | cons u us => exact ⟨u, us, rfl⟩
    have hst : hstore h (((⟨k.b, a.off + k.sh, none⟩ : Addr)).add (n * size)) news' = some (h.set k.b (.own 0 (splice (pre ++ vs' ++ rest) (a.off + k.sh + n * size) news') k.sz)) := by
      rw [add_none, hus]
      simp only [hstore, hy]
      rw [if_pos, Nat.sub_zero]
      rw [← hus, hlen]
      simp only [List.length_append]
      omega
    refine ⟨_, hst, ?_⟩
    obtain ⟨hn9, rfl, rfl⟩ := newE_some e
    have pk := p.kill hx
    have hnx : (m.set a.block none).next = m.next := rfl
    rw [hnx] at hn9
    let k2 : Rm := ⟨k.b, a.off + k.sh, k.sz, size⟩
    have hle : r.le (r.more m.next k2) := Rr.le_more (p.fresh _ (Nat.le_refl _))
    have key : splice (pre ++ vs' ++ rest) (a.off + k.sh + n * size) news' = (pre ++ vs'.take a.off) ++ (old' ++ news') ++ ((pre ++ vs' ++ rest).drop (a.off + k.sh + n * size + news'.length)) := by
      unfold splice
      rw [hold']
      have : List.take (a.off + k.sh + n * size) (pre ++ vs' ++ rest) = pre ++ vs'.take a.off ++ (vs'.drop a.off).take (n * size) := by
        rw [← hp, show a.off + pre.length + n * size = pre.length + (a.off + n * size) from by omega, List.append_assoc pre, List.take_length_add_append, List.take_append_of_le_length (by omega), List.append_assoc, List.take_add]
      rw [this]
      simp only [List.append_assoc]
    have hb2 : BR E.fid (r.more m.next k2) k2 (.cells size (old ++ news)) (.own 0 (splice (pre ++ vs' ++ rest) (a.off + k.sh + n * size) news') k2.sz) := by
      rw [key]
      have hlo : old'.length = n * size := hcells_length ho1
      refine .cells rfl ?_ ?_ (fun z => absurd z hpos) ?_
      · show (pre ++ vs'.take a.off).length = a.off + k.sh
        simp; omega
      · exact (ho2.append hn).mono fun _ _ x => x.mono hle
      · show (pre ++ vs'.take a.off).length + (old' ++ news').length + ((pre ++ vs' ++ rest).drop (a.off + k.sh + n * size + news'.length)).length ≤ k.sz
        simp only [List.length_append, List.length_take, List.length_drop, hlo, hlen]
        omega
    obtain ⟨q1, _⟩ := HS.more pk (x := .cells size (old ++ news)) (k := k2) (y := .own 0 (splice (pre ++ vs' ++ rest) (a.off + k.sh + n * size) news') k2.sz) (by rw [hnx]; exact hn9)
      (fun c z l hz hl hh => by
        have hc : c ≠ a.block := by
          intro hc; subst hc
          rw [VM.get_set (by have := p.lt hx; have := p.room; omega)] at hz
          simp at hz
        have hz' : m.get c = some z := by
          rw [VM.get_set (by have := p.lt hx; have := p.room; omega), if_neg hc] at hz; exact hz
        exact hc (p.inj c a.block z _ l k hz' hx hl hk hh)) (show h0 k2.b = none from p.own a.block _ k hx hk) hb2
    refine ⟨_, hle, q1, ?_⟩
    refine .one (.one (.base (.slice (a := ⟨(m.set a.block none).next, 0, none⟩) (k := k2) (n := n + q) (c := 0) (c' := c) (o := a.off + k.sh) rfl (by rw [hnx]; simp [Rr.more]) hfit (fun z => absurd z hpos) (fun _ => ⟨?_, fun _ => by show a.off + k.sh = 0 + (a.off + k.sh); omega⟩))))
    show 0 + (a.off + k.sh) + c * size = k.sz
    omega

theorem appE_sim (p : HS E.fid h0 r m h) {size bytes n c q c' : Nat} {base base' : Option Addr} {news news' : List Value} (hpos : size ≠ 0) (hs : VR E.fid r (.slice base n c) (.slice base' n c')) (hn : All2 (VR0 E.fid r) news news') (hlen : news'.length = q * size)
    (e : appE size bytes m base n c q news = some (v, m')) (hq : After E h0 r m' v K) : appendW size bytes h base' n c' q news' K := by
  have h1 := one_all hn
  unfold appE at e
  split at e
  · -- nil
    have hh := hs.of_sl0
    simp only [Value.slice.injEq] at hh
    obtain ⟨rfl, _, rfl⟩ := hh
    cases hk : Nat.beq q 0 with
    | true =>
      rw [hk] at e; simp only [cond_true] at e
      have hk := Nat.eq_of_beq_eq_true hk
      subst hk
      cases hb : Nat.ble n c' with
      | false => rw [hb] at e; cases e
      | true =>
        rw [hb] at e; simp only [cond_true, Option.some.injEq, Prod.mk.injEq] at e
        obtain ⟨rfl, rfl⟩ := e
        have hb := Nat.le_of_ble_eq_true hb
        unfold appendW
        rw [if_pos (by omega)]
        exact hq _ _ r (Rr.le_refl _) p hs
    | false =>
      rw [hk] at e; simp only [cond_false] at e
      have hk : q ≠ 0 := fun z => by rw [z] at hk; cases hk
      cases hb : (Nat.beq n 0 && Nat.beq c' 0 && Nat.ble (q * bytes) 140737488355328 && Nat.ble q 9223372036854775807) with
      | false => rw [hb] at e; cases e
      | true =>
        rw [hb] at e; simp only [cond_true] at e
        simp only [Bool.and_eq_true] at hb
        obtain ⟨⟨⟨b1, b2⟩, b3⟩, b4⟩ := hb
        have b1 := Nat.eq_of_beq_eq_true b1
        have b2 := Nat.eq_of_beq_eq_true b2
        have b3 := Nat.le_of_ble_eq_true b3
        have b4 := Nat.le_of_ble_eq_true b4
        subst b1; subst b2
        unfold appendW
        rw [if_neg (by omega)]
        refine ⟨by rw [Nat.zero_add]; exact b3, by omega, ?_⟩
        simp only [oldOf, if_true]
        intro b c' hfree hle
        rw [Nat.zero_add] at hle ⊢
        obtain ⟨r', g1, g2, g3⟩ := grow_sim (c := c') p hpos hfree hn hle (by rw [hlen]; exact Nat.mul_le_mul_right _ hle) e
        exact hq _ _ r' g1 (by simpa using g2) g3
  · rename_i a
    obtain ⟨k, c2, o, hsp, hkb, hh, hnc, q0, q1⟩ := hs.of_sl
    simp only [Value.slice.injEq] at hh
    obtain ⟨rfl, _, rfl⟩ := hh
    cases hk : Nat.beq q 0 with
    | true =>
      rw [hk] at e; simp only [cond_true, Option.some.injEq, Prod.mk.injEq] at e
      obtain ⟨rfl, rfl⟩ := e
      have hk := Nat.eq_of_beq_eq_true hk
      subst hk
      rw [Nat.zero_mul] at hlen
      have := List.eq_nil_of_length_eq_zero hlen
      subst this
      unfold appendW
      rw [if_pos (by omega)]
      simp only [hstore]
      exact ⟨by simp, hq _ _ r (Rr.le_refl _) p hs⟩
    | false =>
      rw [hk] at e; simp only [cond_false] at e
      have hk : q ≠ 0 := fun z => by rw [z] at hk; cases hk
      cases hb : (Nat.ble ((n + q) * bytes) 140737488355328 && Nat.ble (n + q) 9223372036854775807) with
      | false => rw [hb] at e; cases e
      | true =>
        rw [hb] at e; simp only [cond_true] at e
        simp only [Bool.and_eq_true] at hb
        have b1 := Nat.le_of_ble_eq_true hb.1
        have b2 := Nat.le_of_ble_eq_true hb.2
        -- the case of a fresh block
        have fresh : ∀ (m2 : VM) (old : List Value), HS E.fid h0 r m2 h → ¬ (n + q ≤ c') → cellsE m a (n * size) = some old →
            newE m2 (.cells size (old ++ news)) (fun b => .slice (some ⟨b, 0, none⟩) (n + q) 0) = some (v, m') → appendW size bytes h (some ⟨k.b, o, none⟩) n c' q news' K := by
          intro m2 old p2 hnf hold e
          obtain ⟨k', c3, o', hsp', hk', hv', old', g1, g2⟩ := sl_cells p.toHR hs (Nat.le_refl _) hold
          simp only [Value.slice.injEq, Option.some.injEq, Addr.mk.injEq, true_and, and_true] at hv'
          obtain ⟨⟨hb1, rfl⟩, rfl⟩ := hv'
          rw [← hb1] at g1
          unfold appendW
          rw [if_neg hnf]
          refine ⟨b1, b2, ?_⟩
          simp only [oldOf, g1]
          intro b c3 hfree hle
          obtain ⟨r', w1, w2, w3⟩ := grow_sim (c := c3) p2 hpos hfree (g2.append hn) hle (by simp only [List.length_append, hcells_length g1, hlen]; rw [← Nat.add_mul]; exact Nat.mul_le_mul_right _ hle) e
          exact hq _ _ r' w1 w2 w3
        unfold appA at e
        split at e
        · rename_i es vs hx
          have hes : k.es = es := by
            obtain ⟨y, hy, hb⟩ := HR.at (p := p.toHR) hkb hx
            cases hb with
            | cells he _ _ _ _ => exact he
          cases es with
          | zero =>
            simp only at e
            obtain ⟨rfl, rfl⟩ := q0 hes
            cases hf : Nat.ble (n + q) c' with
            | true =>
              rw [hf] at e; simp only [cond_true] at e
              have hf := Nat.le_of_ble_eq_true hf
              rw [Option.map_eq_some_iff] at e
              obtain ⟨m2, hm, hh⟩ := e
              simp only [Prod.mk.injEq] at hh
              obtain ⟨rfl, rfl⟩ := hh
              have hk2 : r (a.add (n * size)).block = some k := by rw [add_block]; exact hkb
              obtain ⟨h', g1, g2⟩ := store_sim p hk2 hn hm
              unfold appendW
              rw [if_pos hf]
              simp only
              have : (⟨k.b, a.off + k.sh, none⟩ : Addr).add (n * size) = k.at (a.add (n * size)) := by
                rw [add_none, Rm.at, add_off]; congr 1; omega
              rw [this, g1]
              exact ⟨h1, hq _ _ r (Rr.le_refl _) g2 (.one (.one (.base (.slice hsp hkb hf (fun _ => ⟨rfl, rfl⟩) (fun z => absurd hes z)))))⟩
            | false =>
              rw [hf] at e; simp only [cond_false] at e
              have hf : ¬ (n + q ≤ c') := fun z => by rw [Nat.ble_eq_true_of_le z] at hf; cases hf
              split at e
              · rename_i old hold
                exact fresh m old p hf hold e
              · cases e
          | succ es =>
            simp only at e
            cases hf : (Nat.beq (es + 1) size && Nat.ble a.off vs.length) with
            | false => rw [hf] at e; cases e
            | true =>
              rw [hf] at e; simp only [cond_true] at e
              simp only [Bool.and_eq_true] at hf
              have f1 := Nat.eq_of_beq_eq_true hf.1
              have f2 := Nat.le_of_ble_eq_true hf.2
              obtain ⟨w1, w2⟩ := q1 (by omega)
              split at e
              · rename_i old hold
                by_cases hfit : n + q ≤ c'
                · have ho := w2 (by omega)
                  subst ho
                  obtain ⟨h', g1, r', g2, g3, g4⟩ := regrow_sim p (a := a) (n := n) (q := q) (c := c') (size := size) (old' := old) hkb (by rw [hes]; exact hx) (by omega) hpos hsp w1 hfit hk f2 hold hn hlen e
                  unfold appendW
                  rw [if_pos hfit]
                  simp only
                  rw [g1]
                  exact ⟨h1, hq _ _ r' g2 g3 g4⟩
                · exact fresh _ old (p.kill hx) hfit hold e
              · cases e
        · cases e

theorem sl_shape {base : Option Addr} {n c : Nat} {v' : Value} (hv : VR fid r (.slice base n c) v') : ∃ base' c', v' = .slice base' n c' := by
  cases base with
  | none => exact ⟨none, c, hv.of_sl0⟩
  | some a => obtain ⟨k, c', o, _, _, rfl, _⟩ := hv.of_sl; exact ⟨_, _, rfl⟩

theorem wAppend_sim (s : Sim E.fid r ρ ρ') (p : HS E.fid h0 r m h) {size bytes : Nat} {x y : Opd} (e : wAppend size bytes x y call ρ m = some (v, m')) (q : After E h0 r m' v K) : step E ρ' h (.append size bytes x y) K := by
  unfold wAppend at e
  split at e
  · rename_i base n c yv hx hy
    obtain ⟨x', h1, h2⟩ := s x _ hx
    obtain ⟨y', h3, h4⟩ := s y _ hy
    obtain ⟨base', c', rfl⟩ := sl_shape h2
    split at e
    · rename_i k news hr
      obtain ⟨news', g1, g2, g3⟩ := readX_sim p.toHR h4 hr
      cases hc : (news.all one && Nat.blt 0 size) with
      | false => rw [hc] at e; cases e
      | true =>
        rw [hc] at e; simp only [cond_true] at e
        simp only [Bool.and_eq_true] at hc
        have hpos : size ≠ 0 := by have := hc.2; simp [Nat.blt] at this; omega
        simp only [step, stepW, h1, h3, g1]
        exact appE_sim p hpos h2 g2 g3 e q
    · cases e
  · cases e

theorem wAppendZ_sim (s : Sim E.fid r ρ ρ') (p : HS E.fid h0 r m h) {size bytes : Nat} {z : List Value} {x y : Opd} (e : wAppendZ size bytes z x y call ρ m = some (v, m')) (q : After E h0 r m' v K) : step E ρ' h (.appendZ size bytes z x y) K := by
  unfold wAppendZ at e
  split at e
  · rename_i base n c kk k hx hy
    obtain ⟨x', h1, h2⟩ := s x _ hx
    have h3 := s.int hy
    obtain ⟨base', c', rfl⟩ := sl_shape h2
    cases hc : (decide (0 ≤ k ∧ k ≤ 9223372036854775807 ∧ k * bytes ≤ 281474976710656) && (z.all plain && (Nat.beq z.length size && Nat.blt 0 size))) with
    | false => rw [hc] at e; cases e
    | true =>
      rw [hc] at e; simp only [cond_true] at e
      simp only [Bool.and_eq_true, decide_eq_true_eq] at hc
      obtain ⟨⟨b1, b2, b3⟩, b4, b5, b6⟩ := hc
      have b5 := Nat.eq_of_beq_eq_true b5
      have hpos : size ≠ 0 := by simp [Nat.blt] at b6; omega
      simp only [step, stepW, h1, h3]
      refine ⟨b1, b2, b3, ?_⟩
      exact appE_sim p hpos h2 (plain_refl (all_rep b4)) (by rw [len_rep, b5]) e q
  · cases e

theorem wCopy_sim (s : Sim E.fid r ρ ρ') (p : HS E.fid h0 r m h) {size : Nat} {x y : Opd} (e : wCopy size x y call ρ m = some (v, m')) (q : After E h0 r m' v K) : step E ρ' h (.copy size x y) K := by
  -- the cells go where they shall
  have put : ∀ (a : Addr) (n c i : Nat) (d' : Value) (l l' : List Value) (m2 : VM), VR E.fid r (.slice (some a) n c) d' → All2 (VR0 E.fid r) l l' → l'.length = i * size → i ≤ n → storeE m a l = some m2 →
      ∃ b' c' h', d' = .slice (some b') n c' ∧ hstore h b' l' = some h' ∧ HS E.fid h0 r m2 h' := by
    intro a n c i d' l l' m2 hd hl hlen hin hst
    obtain ⟨k, c', o, hsp, hk, rfl, hn, q0, q1⟩ := hd.of_sl
    obtain ⟨h', g1, g2⟩ := store_sim p hk hl hst
    by_cases z : l' = []
    · subst z
      simp only [hstore, Option.some.injEq] at g1
      subst g1
      exact ⟨_, _, _, rfl, rfl, g2⟩
    · have : i ≠ 0 := by intro hh; rw [hh, Nat.zero_mul] at hlen; exact z (List.eq_nil_of_length_eq_zero hlen)
      have ho : o = a.off + k.sh := by
        by_cases z : k.es = 0
        · exact (q0 z).2
        · exact (q1 z).2 (by omega)
      subst ho
      exact ⟨_, _, _, rfl, g1, g2⟩
  unfold wCopy at e
  split at e
  · rename_i base n cd b k cs hx hy
    obtain ⟨x', h1, h2⟩ := s x _ hx
    obtain ⟨y', h3, h4⟩ := s y _ hy
    split at e
    · rename_i l hl
      obtain ⟨kk, c', o, hsp, hk, rfl, l', g1, g2⟩ := sl_cells p.toHR h4 (i := min k n) (by omega) hl
      cases hc : l.all one with
      | false => rw [hc] at e; cases e
      | true =>
        rw [hc] at e; simp only [cond_true] at e
        split at e
        · rw [h2.of_sl0] at h1
          simp only [Option.some.injEq, Prod.mk.injEq] at e
          obtain ⟨rfl, rfl⟩ := e
          simp only [step, stepW, h1, h3, g1]
          exact ⟨one_all g2, q _ _ r (Rr.le_refl _) p .int⟩
        · rename_i a
          rw [Option.map_eq_some_iff] at e
          obtain ⟨m2, hm, hh⟩ := e
          simp only [Prod.mk.injEq] at hh
          obtain ⟨rfl, rfl⟩ := hh
          obtain ⟨b', c2, h', rfl, w1, w2⟩ := put a n cd (min k n) x' l l' m2 h2 g2 (hcells_length g1) (by omega) hm
          simp only [step, stepW, h1, h3, g1, w1]
          exact ⟨one_all g2, q _ _ r (Rr.le_refl _) w2 .int⟩
    · cases e
  · rename_i base n cd k cs hx hy
    obtain ⟨x', h1, h2⟩ := s x _ hx
    obtain ⟨y', h3, h4⟩ := s y _ hy
    rw [h4.of_sl0] at h3
    obtain ⟨base', c', rfl⟩ := sl_shape h2
    split at e
    · rename_i hk
      simp only [Option.some.injEq, Prod.mk.injEq] at e
      obtain ⟨rfl, rfl⟩ := e
      simp only [step, stepW, h1, h3]
      exact ⟨hk, q _ _ r (Rr.le_refl _) p .int⟩
    · cases e
  · rename_i base n cd b hx hy
    obtain ⟨x', h1, h2⟩ := s x _ hx
    have h3 := s.str hy
    split at e
    · rw [h2.of_sl0] at h1
      simp only [Option.some.injEq, Prod.mk.injEq] at e
      obtain ⟨rfl, rfl⟩ := e
      simp only [step, stepW, h1, h3]
      exact q _ _ r (Rr.le_refl _) p .int
    · rename_i a
      split at e
      · rename_i hsz
        rw [Option.map_eq_some_iff] at e
        obtain ⟨m2, hm, hh⟩ := e
        simp only [Prod.mk.injEq] at hh
        obtain ⟨rfl, rfl⟩ := hh
        obtain ⟨b', c2, h', rfl, w1, w2⟩ := put a n cd (min b.size n) x' _ _ m2 h2 (bytes_rel _) (by simp [hsz]) (by omega) hm
        simp only [step, stepW, h1, h3, w1]
        exact ⟨hsz, q _ _ r (Rr.le_refl _) w2 .int⟩
      · cases e
  · cases e
end
end Go.Bb
