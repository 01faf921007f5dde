/- Walking the short form: code without loops in one word; slices that are read, slices that are owned. -/
import Derived.Test.YtgoifophjcbpaaaBbT
namespace Go.Bb
set_option linter.unusedSimpArgs false
set_option linter.unusedVariables false

theorem tput_some (t : T) (d : Nat) (v : Value) (i : Nat) : tput t (some d) v i = if i = d then some v else t i := rfl
theorem tput_none (t : T) (v : Value) : tput t none v = t := rfl
theorem tl_nil (i : Nat) : tl [] i = none := rfl
theorem tl_cons (j : Nat) (v : Value) (r : List (Nat × Value)) (i : Nat) : tl ((j, v) :: r) i = if i = j then some v else tl r i := rfl
theorem tkeep_def (ks : List Nat) (t : T) : tkeep ks t = tl (ks.filterMap fun k => (t k).map fun v => (k, v)) := rfl

theorem acall {tab : Nat → Option (Hint × AFunc)} {E : EnvT tab} {n : Nat} {args : List Value} {h : Heap} {Q : Value → Heap → Prop} (H : Hint) (af : AFunc) (htab : tab n = some (H, af)) (hargs : Nat.ble args.length af.nt = true)
    (p : AW E.toEnv af.nt af.body (qRet af.results Q) (tl (argsT 0 args)) h) : ACallN E.toEnv n args h Q :=
  acall_body (hf := (H, af)) htab (Nat.le_of_ble_eq_true hargs) p

/-! ### what comes next, as a thing by itself (so that a walk looks into nothing before its turn) -/
def contOps (E : Env) (d : Option Nat) (os : List AOper) (R : T → Heap → Prop) (t : T) : Value → Heap → Prop := fun v h => runOps E os R (tput t d v) h
theorem contOps_app {E : Env} {d : Option Nat} {os : List AOper} {R : T → Heap → Prop} {t : T} {v : Value} {h : Heap} : contOps E d os R t v h = runOps E os R (tput t d v) h := rfl
def contDW (E : Env) (d : Option Nat) (os : List DOper) (R : T → Heap → Prop) (t : T) (hb : Heap) (hist : List Heap) : Value → Heap → Prop := fun v h => runD E os R (tput t d v) h h (hb :: hist)
theorem contDW_app {E : Env} {d : Option Nat} {os : List DOper} {R : T → Heap → Prop} {t : T} {hb : Heap} {hist : List Heap} {v : Value} {h : Heap} : contDW E d os R t hb hist v h = runD E os R (tput t d v) h h (hb :: hist) := rfl
def contDA (E : Env) (d : Option Nat) (os : List DOper) (R : T → Heap → Prop) (t : T) (hb : Heap) (hist : List Heap) : Value → Heap → Prop := fun v h => runD E os R (tput t d v) h hb hist
theorem contDA_app {E : Env} {d : Option Nat} {os : List DOper} {R : T → Heap → Prop} {t : T} {hb : Heap} {hist : List Heap} {v : Value} {h : Heap} : contDA E d os R t hb hist v h = runD E os R (tput t d v) h hb hist := rfl
def contK (keep : List Nat) (Q : AExit → T → Heap → Prop) : T → Heap → Prop := fun t h => Q .normal (tkeep keep t) h
theorem contK_app {keep : List Nat} {Q : AExit → T → Heap → Prop} {t : T} {h : Heap} : contK keep Q t h = Q .normal (tkeep keep t) h := rfl

def withV (x : Option Value) (K : Value → Heap → Prop) (h : Heap) : Prop := match x with | some v => K v h | none => False
theorem withV_some {v : Value} {K : Value → Heap → Prop} {h : Heap} : withV (some v) K h = K v h := rfl
theorem withV_none {K : Value → Heap → Prop} {h : Heap} : withV none K h = False := rfl
def withH (x : Option Heap) (v : Value) (K : Value → Heap → Prop) : Prop := match x with | some h => K v h | none => False
theorem withH_some {v : Value} {K : Value → Heap → Prop} {h : Heap} : withH (some h) v K = K v h := rfl
theorem withH_none {v : Value} {K : Value → Heap → Prop} : withH none v K = False := rfl
def withA (x : Option (Blk × (Nat → Value))) (K : Value → Heap → Prop) (h : Heap) : Prop := match x with | some (blk, mk) => ∀ b, h b = none → K (mk b) (h.set b blk) | none => False
theorem withA_some {h : Heap} {blk : Blk} {mk : Nat → Value} {K : Value → Heap → Prop} : withA (some (blk, mk)) K h = ∀ b, h b = none → K (mk b) (h.set b blk) := rfl
theorem withA_none {h : Heap} {K : Value → Heap → Prop} : withA none K h = False := rfl

def wpA (E : Env) (N : Nat) : ACode → (AExit → T → Heap → Prop) → T → Heap → Prop
  | .skip, Q, t, h => Q .normal t h
  | .ops os keep, Q, t, h => runOps E os (contK keep Q) t h
  | .dops os keep, Q, t, h => runD E os (contK keep Q) t h h []
  | .seq a b, Q, t, h => wpA E N a (qSeq (wpA E N b Q) Q) t h
  | .cond c a b, Q, t, h => match oev E.fid t c with | some (.bool b') => (b' = true → wpA E N a Q t h) ∧ (b' = false → wpA E N b Q t h) | _ => False
  | .block id c, Q, t, h => wpA E N c (qBlock id Q) t h
  | .scope c, Q, t, h => wpA E N c Q t h
  | .exit id, Q, t, h => Q (.exit id) t h
  | .ret, Q, t, h => Q .ret t h
  | .loop c, Q, t, h => AW E N (.loop c) Q t h
  | .bad, _, _, _ => False

theorem wpA_sound {E : Env} {N : Nat} : ∀ {c : ACode} {Q : AExit → T → Heap → Prop} {t : T} {h : Heap}, wpA E N c Q t h → AW E N c Q t h
  | .skip, Q, t, h, p => aw_skip p
  | .ops os keep, Q, t, h, p => aw_ops p
  | .dops os keep, Q, t, h, p => aw_dops p
  | .seq a b, Q, t, h, p => aw_seq ((wpA_sound (c := a) p).mono fun e t' h' hq => by
      cases e with
      | normal => exact wpA_sound (c := b) hq
      | exit i => exact hq
      | ret => exact hq)
  | .cond c a b, Q, t, h, p => by
    simp only [wpA] at p
    split at p
    · rename_i b' hb
      exact aw_cond hb (fun e => wpA_sound (p.1 e)) (fun e => wpA_sound (p.2 e))
    · exact p.elim
  | .block id c, Q, t, h, p => aw_block (wpA_sound (c := c) p)
  | .scope c, Q, t, h, p => aw_scope (wpA_sound (c := c) p)
  | .exit id, Q, t, h, p => aw_exit p
  | .ret, Q, t, h, p => aw_ret p
  | .loop c, Q, t, h, p => p
  | .bad, Q, t, h, p => p.elim


def WhenA (c : Prop) (E : Env) (N : Nat) (a : ACode) (Q : AExit → T → Heap → Prop) (t : T) (h : Heap) : Prop := c → wpA E N a Q t h
def condO (x : Option Value) (E : Env) (N : Nat) (a b : ACode) (Q : AExit → T → Heap → Prop) (t : T) (h : Heap) : Prop :=
  match x with
  | some (.bool b') => WhenA (b' = true) E N a Q t h ∧ WhenA (b' = false) E N b Q t h
  | _ => False
/-- The loop's rule, for the walk. -/
theorem wp_loop' {E : Env} {N : Nat} {Q : AExit → T → Heap → Prop} {t : T} {h : Heap} {x : ACode} (I : Nat → T → Heap → Prop) (n : Nat) (h0 : I n t h) (round : ∀ n t h, I n t h → wpA E N x (qSeq (fun t h => ∃ m, m < n ∧ I m t h) Q) t h) : AW E N (.loop x) Q t h :=
  aw_loop I n h0 fun n t h hi => wpA_sound (round n t h hi)

section
variable {E : Env} {N : Nat} {Q : AExit → T → Heap → Prop} {t : T} {h : Heap}
theorem wpA_skip : wpA E N .skip Q t h = Q .normal t h := rfl
theorem wpA_ops {os : List AOper} {keep : List Nat} : wpA E N (.ops os keep) Q t h = runOps E os (contK keep Q) t h := rfl
theorem wpA_dops {os : List DOper} {keep : List Nat} : wpA E N (.dops os keep) Q t h = runD E os (contK keep Q) t h h [] := rfl
theorem wpA_seq {a b : ACode} : wpA E N (.seq a b) Q t h = wpA E N a (qSeq (wpA E N b Q) Q) t h := rfl
theorem wpA_cond {c : Opd} {a b : ACode} : wpA E N (.cond c a b) Q t h = condO (oev E.fid t c) E N a b Q t h := by
  simp only [wpA, condO, WhenA]
theorem wpA_block {id : Nat} {c : ACode} : wpA E N (.block id c) Q t h = wpA E N c (qBlock id Q) t h := rfl
theorem wpA_scope {c : ACode} : wpA E N (.scope c) Q t h = wpA E N c Q t h := rfl
theorem wpA_exit {id : Nat} : wpA E N (.exit id) Q t h = Q (.exit id) t h := rfl
theorem wpA_ret : wpA E N .ret Q t h = Q .ret t h := rfl
theorem wpA_loop {c : ACode} : wpA E N (.loop c) Q t h = AW E N (.loop c) Q t h := rfl
theorem WhenA_true {a : ACode} : WhenA True E N a Q t h = wpA E N a Q t h := by simp [WhenA]
theorem WhenA_false {a : ACode} : WhenA False E N a Q t h = True := by simp [WhenA]
theorem condO_true {a b : ACode} : condO (some (.bool true)) E N a b Q t h = wpA E N a Q t h := by simp [condO, WhenA]
theorem condO_false {a b : ACode} : condO (some (.bool false)) E N a b Q t h = wpA E N b Q t h := by simp [condO, WhenA]
theorem condO_bool {b' : Bool} {a b : ACode} : condO (some (.bool b')) E N a b Q t h = (WhenA (b' = true) E N a Q t h ∧ WhenA (b' = false) E N b Q t h) := rfl
theorem qSeq_normal {K : T → Heap → Prop} : qSeq K Q .normal t h = K t h := rfl
theorem qSeq_exit {K : T → Heap → Prop} {i : Nat} : qSeq K Q (.exit i) t h = Q (.exit i) t h := rfl
theorem qSeq_ret {K : T → Heap → Prop} : qSeq K Q .ret t h = Q .ret t h := rfl
theorem qBlock_normal {id : Nat} : qBlock id Q .normal t h = Q .normal t h := rfl
theorem qBlock_ret {id : Nat} : qBlock id Q .ret t h = Q .ret t h := rfl
theorem qBlock_same {id : Nat} : qBlock id Q (.exit id) t h = Q .normal t h := by simp [qBlock]
theorem qBlock_other {id i : Nat} (e : (i == id) = false) : qBlock id Q (.exit i) t h = Q (.exit i) t h := by
  have : ¬ i = id := by simpa using e
  simp [qBlock, this]
def retO (rs : List ARes) (t : T) (h : Heap) : Option Value := (retL rs t h).map retV
theorem qRet_normal {rs : List ARes} {Q : Value → Heap → Prop} : qRet rs Q .normal t h = withV (retO rs t h) Q h := by
  simp only [qRet, retO, withV]; cases retL rs t h <;> rfl
theorem qRet_ret {rs : List ARes} {Q : Value → Heap → Prop} : qRet rs Q .ret t h = withV (retO rs t h) Q h := by
  simp only [qRet, retO, withV]; cases retL rs t h <;> rfl
end

section
variable {E : Env} {ρ : Opd → Option Value} {h hb : Heap} {hist : List Heap} {K : Value → Heap → Prop} {t : T} {R : T → Heap → Prop}

def WhenS (c : Prop) (E : Env) (d : Option Nat) (op : AOp) (os : List AOper) (R : T → Heap → Prop) (t : T) (h : Heap) : Prop := c → step E (oev E.fid t) h op (contOps E d os R t)
def WhenR (c : Prop) (E : Env) (d : Option Nat) (os : List AOper) (R : T → Heap → Prop) (t : T) (h : Heap) : Prop := c → runOps E os R (tput t d undef) h
def guardOps (x : Option Value) (want : Bool) (E : Env) (d : Option Nat) (op : AOp) (os : List AOper) (R : T → Heap → Prop) (t : T) (h : Heap) : Prop :=
  match x with
  | some (.bool b) => WhenS (b = want) E d op os R t h ∧ WhenR (¬ b = want) E d os R t h
  | _ => False
theorem guardOps_bool {b want : Bool} {d : Option Nat} {op : AOp} {os : List AOper} : guardOps (some (.bool b)) want E d op os R t h = (WhenS (b = want) E d op os R t h ∧ WhenR (¬ b = want) E d os R t h) := rfl
theorem WhenS_true {d : Option Nat} {op : AOp} {os : List AOper} : WhenS True E d op os R t h = step E (oev E.fid t) h op (contOps E d os R t) := by simp [WhenS]
theorem WhenS_false {d : Option Nat} {op : AOp} {os : List AOper} : WhenS False E d op os R t h = True := by simp [WhenS]
theorem WhenR_true {d : Option Nat} {os : List AOper} : WhenR True E d os R t h = runOps E os R (tput t d undef) h := by simp [WhenR]
theorem WhenR_false {d : Option Nat} {os : List AOper} : WhenR False E d os R t h = True := by simp [WhenR]

theorem runOps_nil : runOps E [] R t h = R t h := rfl
theorem runOps_none {d : Option Nat} {op : AOp} {os : List AOper} : runOps E (⟨d, op, none⟩ :: os) R t h = step E (oev E.fid t) h op (contOps E d os R t) := rfl
theorem runOps_guard {d : Option Nat} {op : AOp} {g : Nat} {want : Bool} {os : List AOper} : runOps E (⟨d, op, some (g, want)⟩ :: os) R t h = guardOps (t g) want E d op os R t h := by
  simp only [runOps, guardOps, WhenS, WhenR]
  cases t g with
  | none => rfl
  | some v =>
    cases v <;> try rfl
    rename_i b
    simp only
    by_cases e : b = want
    · simp only [e, if_true, not_true_eq_false, false_implies, and_true, true_implies]; rfl
    · simp only [e, if_false, not_false_eq_true, true_implies, false_implies, true_and]

theorem step_F {op : AOp} (hq : op.quiet = true) : step E ρ h op K = withV (pureV E.fid ρ h op) K h := by
  have key : (match pureV E.fid ρ h op with | some v => K v h | none => False) = withV (pureV E.fid ρ h op) K h := by
    unfold withV
    cases pureV E.fid ρ h op <;> rfl
  rw [← key]
  cases op <;> simp [AOp.quiet] at hq <;> rfl
theorem step_A {op : AOp} (hq : op.isA = true) : step E ρ h op K = withA (allocV ρ op) K h := by
  have key : (match allocV ρ op with | some (blk, mk) => ∀ b, h b = none → K (mk b) (h.set b blk) | none => False) = withA (allocV ρ op) K h := by
    unfold withA
    cases allocV ρ op <;> rfl
  rw [← key]
  cases op <;> simp [AOp.isA] at hq <;> rfl

/-- A reading one that may stand further back. -/
def withB (x : Option Value) (l : List Heap) (E : Env) (t : T) (op : AOp) (K : Value → Heap → Prop) (h : Heap) : Prop :=
  match x with | some v => (∀ g ∈ l, pureV E.fid (oev E.fid t) g op = some v) ∧ K v h | none => False
theorem withB_some {v : Value} {l : List Heap} {op : AOp} : withB (some v) l E t op K h = ((∀ g ∈ l, pureV E.fid (oev E.fid t) g op = some v) ∧ K v h) := rfl

theorem quiet_not {op : AOp} (hq : op.quiet = true) : op.isW = false ∧ op.isA = false := by
  cases op <;> simp [AOp.quiet] at hq <;> exact ⟨rfl, rfl⟩
theorem runD_F {ix : Nat} {d : Option Nat} {op : AOp} {os : List DOper} (hq : op.quiet = true) : runD E (⟨ix, d, op, none, 0⟩ :: os) R t h hb hist = withV (pureV E.fid (oev E.fid t) hb op) (contDA E d os R t hb hist) h := by
  obtain ⟨h1, h2⟩ := quiet_not hq
  simp only [runD, oneD, goD, h1, h2, Bool.false_eq_true, if_false, List.take_zero, List.not_mem_nil, false_implies, implies_true, true_and]
  unfold withV
  cases pureV E.fid (oev E.fid t) hb op <;> rfl
theorem runD_Fb {ix : Nat} {d : Option Nat} {op : AOp} {back : Nat} {os : List DOper} (hq : op.quiet = true) : runD E (⟨ix, d, op, none, back + 1⟩ :: os) R t h hb hist =
    withB (pureV E.fid (oev E.fid t) hb op) (hist.take (back + 1)) E t op (contDA E d os R t hb hist) h := by
  obtain ⟨h1, h2⟩ := quiet_not hq
  simp only [runD, oneD, goD, h1, h2, Bool.false_eq_true, if_false]
  unfold withB
  cases pureV E.fid (oev E.fid t) hb op <;> rfl
theorem runD_A {ix : Nat} {d : Option Nat} {op : AOp} {back : Nat} {os : List DOper} (hw : op.isA = true) : runD E (⟨ix, d, op, none, back⟩ :: os) R t h hb hist = withA (allocV (oev E.fid t) op) (contDA E d os R t hb hist) h := by
  have : op.isW = false := by cases op <;> simp [AOp.isA] at hw <;> rfl
  simp only [runD, oneD, goD, hw, this, if_true, Bool.false_eq_true, if_false]
  unfold withA
  cases allocV (oev E.fid t) op <;> rfl
theorem runD_W {ix : Nat} {d : Option Nat} {op : AOp} {back : Nat} {os : List DOper} (hw : op.isW = true) : runD E (⟨ix, d, op, none, back⟩ :: os) R t h hb hist = step E (oev E.fid t) h op (contDW E d os R t hb hist) := by
  simp only [runD, oneD, goD, hw, if_true]; rfl
theorem runD_nil : runD E [] R t h hb hist = R t h := rfl

def WhenD (c : Prop) (E : Env) (o : DOper) (os : List DOper) (R : T → Heap → Prop) (t : T) (h hb : Heap) (hist : List Heap) : Prop := c → runD E ({ o with guard := none } :: os) R t h hb hist
def WhenN (c : Prop) (E : Env) (d : Option Nat) (w : Bool) (os : List DOper) (R : T → Heap → Prop) (t : T) (h hb : Heap) (hist : List Heap) : Prop := c → runD E os R (tput t d undef) h hb (if w = true then hb :: hist else hist)
def guardD (x : Option Value) (want : Bool) (E : Env) (o : DOper) (os : List DOper) (R : T → Heap → Prop) (t : T) (h hb : Heap) (hist : List Heap) : Prop :=
  match x with
  | some (.bool b) => WhenD (b = want) E o os R t h hb hist ∧ WhenN (¬ b = want) E o.dst o.op.isW os R t h hb hist
  | _ => False
theorem guardD_bool {b want : Bool} {o : DOper} {os : List DOper} : guardD (some (.bool b)) want E o os R t h hb hist = (WhenD (b = want) E o os R t h hb hist ∧ WhenN (¬ b = want) E o.dst o.op.isW os R t h hb hist) := rfl
theorem WhenD_true {ix : Nat} {d : Option Nat} {op : AOp} {g : Option (Nat × Bool)} {back : Nat} {os : List DOper} : WhenD True E ⟨ix, d, op, g, back⟩ os R t h hb hist = runD E (⟨ix, d, op, none, back⟩ :: os) R t h hb hist := by simp [WhenD]
theorem WhenD_false {o : DOper} {os : List DOper} : WhenD False E o os R t h hb hist = True := by simp [WhenD]
theorem WhenN_true {d : Option Nat} {w : Bool} {os : List DOper} : WhenN True E d w os R t h hb hist = runD E os R (tput t d undef) h hb (if w = true then hb :: hist else hist) := by simp [WhenN]
theorem WhenN_false {d : Option Nat} {w : Bool} {os : List DOper} : WhenN False E d w os R t h hb hist = True := by simp [WhenN]
theorem runD_guard {ix : Nat} {d : Option Nat} {op : AOp} {back g : Nat} {want : Bool} {os : List DOper} : runD E (⟨ix, d, op, some (g, want), back⟩ :: os) R t h hb hist = guardD (t g) want E ⟨ix, d, op, some (g, want), back⟩ os R t h hb hist := by
  simp only [runD, oneD, guardD, WhenD, WhenN]
  cases t g with
  | none => rfl
  | some v =>
    cases v <;> try rfl
    rename_i b
    simp only
    by_cases e : b = want
    · simp only [e, if_true, not_true_eq_false, false_implies, and_true, true_implies]; rfl
    · simp only [e, if_false, not_false_eq_true, true_implies, false_implies, true_and]; rfl

theorem step_mv {x : Opd} : step E ρ h (.mv x) K = withV (pureV E.fid ρ h (.mv x)) K h := step_F rfl
theorem runD_mv {x : Opd} {ix : Nat} {d : Option Nat} {os : List DOper} : runD E (⟨ix, d, .mv x, none, 0⟩ :: os) R t h hb hist = withV (pureV E.fid (oev E.fid t) hb (.mv x)) (contDA E d os R t hb hist) h := runD_F rfl
theorem runDb_mv {x : Opd} {ix : Nat} {d : Option Nat} {os : List DOper} {back : Nat} : runD E (⟨ix, d, .mv x, none, back + 1⟩ :: os) R t h hb hist = withB (pureV E.fid (oev E.fid t) hb (.mv x)) (hist.take (back + 1)) E t (.mv x) (contDA E d os R t hb hist) h := runD_Fb rfl
theorem step_num {n : Nat} : step E ρ h (.num n) K = withV (pureV E.fid ρ h (.num n)) K h := step_F rfl
theorem runD_num {n : Nat} {ix : Nat} {d : Option Nat} {os : List DOper} : runD E (⟨ix, d, .num n, none, 0⟩ :: os) R t h hb hist = withV (pureV E.fid (oev E.fid t) hb (.num n)) (contDA E d os R t hb hist) h := runD_F rfl
theorem runDb_num {n : Nat} {ix : Nat} {d : Option Nat} {os : List DOper} {back : Nat} : runD E (⟨ix, d, .num n, none, back + 1⟩ :: os) R t h hb hist = withB (pureV E.fid (oev E.fid t) hb (.num n)) (hist.take (back + 1)) E t (.num n) (contDA E d os R t hb hist) h := runD_Fb rfl
theorem step_pick {c a b : Opd} : step E ρ h (.pick c a b) K = withV (pureV E.fid ρ h (.pick c a b)) K h := step_F rfl
theorem runD_pick {c a b : Opd} {ix : Nat} {d : Option Nat} {os : List DOper} : runD E (⟨ix, d, .pick c a b, none, 0⟩ :: os) R t h hb hist = withV (pureV E.fid (oev E.fid t) hb (.pick c a b)) (contDA E d os R t hb hist) h := runD_F rfl
theorem runDb_pick {c a b : Opd} {ix : Nat} {d : Option Nat} {os : List DOper} {back : Nat} : runD E (⟨ix, d, .pick c a b, none, back + 1⟩ :: os) R t h hb hist = withB (pureV E.fid (oev E.fid t) hb (.pick c a b)) (hist.take (back + 1)) E t (.pick c a b) (contDA E d os R t hb hist) h := runD_Fb rfl
theorem step_load {k : Option Nat} {x : Opd} : step E ρ h (.load k x) K = withV (pureV E.fid ρ h (.load k x)) K h := step_F rfl
theorem runD_load {k : Option Nat} {x : Opd} {ix : Nat} {d : Option Nat} {os : List DOper} : runD E (⟨ix, d, .load k x, none, 0⟩ :: os) R t h hb hist = withV (pureV E.fid (oev E.fid t) hb (.load k x)) (contDA E d os R t hb hist) h := runD_F rfl
theorem runDb_load {k : Option Nat} {x : Opd} {ix : Nat} {d : Option Nat} {os : List DOper} {back : Nat} : runD E (⟨ix, d, .load k x, none, back + 1⟩ :: os) R t h hb hist = withB (pureV E.fid (oev E.fid t) hb (.load k x)) (hist.take (back + 1)) E t (.load k x) (contDA E d os R t hb hist) h := runD_Fb rfl
theorem step_nilc {x : Opd} : step E ρ h (.nilc x) K = withV (pureV E.fid ρ h (.nilc x)) K h := step_F rfl
theorem runD_nilc {x : Opd} {ix : Nat} {d : Option Nat} {os : List DOper} : runD E (⟨ix, d, .nilc x, none, 0⟩ :: os) R t h hb hist = withV (pureV E.fid (oev E.fid t) hb (.nilc x)) (contDA E d os R t hb hist) h := runD_F rfl
theorem runDb_nilc {x : Opd} {ix : Nat} {d : Option Nat} {os : List DOper} {back : Nat} : runD E (⟨ix, d, .nilc x, none, back + 1⟩ :: os) R t h hb hist = withB (pureV E.fid (oev E.fid t) hb (.nilc x)) (hist.take (back + 1)) E t (.nilc x) (contDA E d os R t hb hist) h := runD_Fb rfl
theorem step_bin {bop : BinOp} {x y : Opd} : step E ρ h (.bin bop x y) K = withV (pureV E.fid ρ h (.bin bop x y)) K h := step_F rfl
theorem runD_bin {bop : BinOp} {x y : Opd} {ix : Nat} {d : Option Nat} {os : List DOper} : runD E (⟨ix, d, .bin bop x y, none, 0⟩ :: os) R t h hb hist = withV (pureV E.fid (oev E.fid t) hb (.bin bop x y)) (contDA E d os R t hb hist) h := runD_F rfl
theorem runDb_bin {bop : BinOp} {x y : Opd} {ix : Nat} {d : Option Nat} {os : List DOper} {back : Nat} : runD E (⟨ix, d, .bin bop x y, none, back + 1⟩ :: os) R t h hb hist = withB (pureV E.fid (oev E.fid t) hb (.bin bop x y)) (hist.take (back + 1)) E t (.bin bop x y) (contDA E d os R t hb hist) h := runD_Fb rfl
theorem step_eqv {k : EqK} {ne : Bool} {x y : Opd} : step E ρ h (.eqv k ne x y) K = withV (pureV E.fid ρ h (.eqv k ne x y)) K h := step_F rfl
theorem runD_eqv {k : EqK} {ne : Bool} {x y : Opd} {ix : Nat} {d : Option Nat} {os : List DOper} : runD E (⟨ix, d, .eqv k ne x y, none, 0⟩ :: os) R t h hb hist = withV (pureV E.fid (oev E.fid t) hb (.eqv k ne x y)) (contDA E d os R t hb hist) h := runD_F rfl
theorem runDb_eqv {k : EqK} {ne : Bool} {x y : Opd} {ix : Nat} {d : Option Nat} {os : List DOper} {back : Nat} : runD E (⟨ix, d, .eqv k ne x y, none, back + 1⟩ :: os) R t h hb hist = withB (pureV E.fid (oev E.fid t) hb (.eqv k ne x y)) (hist.take (back + 1)) E t (.eqv k ne x y) (contDA E d os R t hb hist) h := runD_Fb rfl
theorem step_eqa {ks : List (Option IntKind)} {ne : Bool} {x y : Opd} : step E ρ h (.eqa ks ne x y) K = withV (pureV E.fid ρ h (.eqa ks ne x y)) K h := step_F rfl
theorem runD_eqa {ks : List (Option IntKind)} {ne : Bool} {x y : Opd} {ix : Nat} {d : Option Nat} {os : List DOper} : runD E (⟨ix, d, .eqa ks ne x y, none, 0⟩ :: os) R t h hb hist = withV (pureV E.fid (oev E.fid t) hb (.eqa ks ne x y)) (contDA E d os R t hb hist) h := runD_F rfl
theorem runDb_eqa {ks : List (Option IntKind)} {ne : Bool} {x y : Opd} {ix : Nat} {d : Option Nat} {os : List DOper} {back : Nat} : runD E (⟨ix, d, .eqa ks ne x y, none, back + 1⟩ :: os) R t h hb hist = withB (pureV E.fid (oev E.fid t) hb (.eqa ks ne x y)) (hist.take (back + 1)) E t (.eqa ks ne x y) (contDA E d os R t hb hist) h := runD_Fb rfl
theorem step_un {uop : UnOp} {x : Opd} : step E ρ h (.un uop x) K = withV (pureV E.fid ρ h (.un uop x)) K h := step_F rfl
theorem runD_un {uop : UnOp} {x : Opd} {ix : Nat} {d : Option Nat} {os : List DOper} : runD E (⟨ix, d, .un uop x, none, 0⟩ :: os) R t h hb hist = withV (pureV E.fid (oev E.fid t) hb (.un uop x)) (contDA E d os R t hb hist) h := runD_F rfl
theorem runDb_un {uop : UnOp} {x : Opd} {ix : Nat} {d : Option Nat} {os : List DOper} {back : Nat} : runD E (⟨ix, d, .un uop x, none, back + 1⟩ :: os) R t h hb hist = withB (pureV E.fid (oev E.fid t) hb (.un uop x)) (hist.take (back + 1)) E t (.un uop x) (contDA E d os R t hb hist) h := runD_Fb rfl
theorem step_conv {k : IntKind} {x : Opd} : step E ρ h (.conv k x) K = withV (pureV E.fid ρ h (.conv k x)) K h := step_F rfl
theorem runD_conv {k : IntKind} {x : Opd} {ix : Nat} {d : Option Nat} {os : List DOper} : runD E (⟨ix, d, .conv k x, none, 0⟩ :: os) R t h hb hist = withV (pureV E.fid (oev E.fid t) hb (.conv k x)) (contDA E d os R t hb hist) h := runD_F rfl
theorem runDb_conv {k : IntKind} {x : Opd} {ix : Nat} {d : Option Nat} {os : List DOper} {back : Nat} : runD E (⟨ix, d, .conv k x, none, back + 1⟩ :: os) R t h hb hist = withB (pureV E.fid (oev E.fid t) hb (.conv k x)) (hist.take (back + 1)) E t (.conv k x) (contDA E d os R t hb hist) h := runD_Fb rfl
theorem step_strOf {x : Opd} : step E ρ h (.strOf x) K = withV (pureV E.fid ρ h (.strOf x)) K h := step_F rfl
theorem runD_strOf {x : Opd} {ix : Nat} {d : Option Nat} {os : List DOper} : runD E (⟨ix, d, .strOf x, none, 0⟩ :: os) R t h hb hist = withV (pureV E.fid (oev E.fid t) hb (.strOf x)) (contDA E d os R t hb hist) h := runD_F rfl
theorem runDb_strOf {x : Opd} {ix : Nat} {d : Option Nat} {os : List DOper} {back : Nat} : runD E (⟨ix, d, .strOf x, none, back + 1⟩ :: os) R t h hb hist = withB (pureV E.fid (oev E.fid t) hb (.strOf x)) (hist.take (back + 1)) E t (.strOf x) (contDA E d os R t hb hist) h := runD_Fb rfl
theorem step_strId {x : Opd} : step E ρ h (.strId x) K = withV (pureV E.fid ρ h (.strId x)) K h := step_F rfl
theorem runD_strId {x : Opd} {ix : Nat} {d : Option Nat} {os : List DOper} : runD E (⟨ix, d, .strId x, none, 0⟩ :: os) R t h hb hist = withV (pureV E.fid (oev E.fid t) hb (.strId x)) (contDA E d os R t hb hist) h := runD_F rfl
theorem runDb_strId {x : Opd} {ix : Nat} {d : Option Nat} {os : List DOper} {back : Nat} : runD E (⟨ix, d, .strId x, none, back + 1⟩ :: os) R t h hb hist = withB (pureV E.fid (oev E.fid t) hb (.strId x)) (hist.take (back + 1)) E t (.strId x) (contDA E d os R t hb hist) h := runD_Fb rfl
theorem step_faddr {off : Nat} {x : Opd} : step E ρ h (.faddr off x) K = withV (pureV E.fid ρ h (.faddr off x)) K h := step_F rfl
theorem runD_faddr {off : Nat} {x : Opd} {ix : Nat} {d : Option Nat} {os : List DOper} : runD E (⟨ix, d, .faddr off x, none, 0⟩ :: os) R t h hb hist = withV (pureV E.fid (oev E.fid t) hb (.faddr off x)) (contDA E d os R t hb hist) h := runD_F rfl
theorem runDb_faddr {off : Nat} {x : Opd} {ix : Nat} {d : Option Nat} {os : List DOper} {back : Nat} : runD E (⟨ix, d, .faddr off x, none, back + 1⟩ :: os) R t h hb hist = withB (pureV E.fid (oev E.fid t) hb (.faddr off x)) (hist.take (back + 1)) E t (.faddr off x) (contDA E d os R t hb hist) h := runD_Fb rfl
theorem step_field {k : Option Nat} {off : Nat} {x : Opd} : step E ρ h (.field k off x) K = withV (pureV E.fid ρ h (.field k off x)) K h := step_F rfl
theorem runD_field {k : Option Nat} {off : Nat} {x : Opd} {ix : Nat} {d : Option Nat} {os : List DOper} : runD E (⟨ix, d, .field k off x, none, 0⟩ :: os) R t h hb hist = withV (pureV E.fid (oev E.fid t) hb (.field k off x)) (contDA E d os R t hb hist) h := runD_F rfl
theorem runDb_field {k : Option Nat} {off : Nat} {x : Opd} {ix : Nat} {d : Option Nat} {os : List DOper} {back : Nat} : runD E (⟨ix, d, .field k off x, none, back + 1⟩ :: os) R t h hb hist = withB (pureV E.fid (oev E.fid t) hb (.field k off x)) (hist.take (back + 1)) E t (.field k off x) (contDA E d os R t hb hist) h := runD_Fb rfl
theorem step_iaddrA {n size : Nat} {x i : Opd} : step E ρ h (.iaddrA n size x i) K = withV (pureV E.fid ρ h (.iaddrA n size x i)) K h := step_F rfl
theorem runD_iaddrA {n size : Nat} {x i : Opd} {ix : Nat} {d : Option Nat} {os : List DOper} : runD E (⟨ix, d, .iaddrA n size x i, none, 0⟩ :: os) R t h hb hist = withV (pureV E.fid (oev E.fid t) hb (.iaddrA n size x i)) (contDA E d os R t hb hist) h := runD_F rfl
theorem runDb_iaddrA {n size : Nat} {x i : Opd} {ix : Nat} {d : Option Nat} {os : List DOper} {back : Nat} : runD E (⟨ix, d, .iaddrA n size x i, none, back + 1⟩ :: os) R t h hb hist = withB (pureV E.fid (oev E.fid t) hb (.iaddrA n size x i)) (hist.take (back + 1)) E t (.iaddrA n size x i) (contDA E d os R t hb hist) h := runD_Fb rfl
theorem step_iaddrS {size : Nat} {x i : Opd} : step E ρ h (.iaddrS size x i) K = withV (pureV E.fid ρ h (.iaddrS size x i)) K h := step_F rfl
theorem runD_iaddrS {size : Nat} {x i : Opd} {ix : Nat} {d : Option Nat} {os : List DOper} : runD E (⟨ix, d, .iaddrS size x i, none, 0⟩ :: os) R t h hb hist = withV (pureV E.fid (oev E.fid t) hb (.iaddrS size x i)) (contDA E d os R t hb hist) h := runD_F rfl
theorem runDb_iaddrS {size : Nat} {x i : Opd} {ix : Nat} {d : Option Nat} {os : List DOper} {back : Nat} : runD E (⟨ix, d, .iaddrS size x i, none, back + 1⟩ :: os) R t h hb hist = withB (pureV E.fid (oev E.fid t) hb (.iaddrS size x i)) (hist.take (back + 1)) E t (.iaddrS size x i) (contDA E d os R t hb hist) h := runD_Fb rfl
theorem step_idxA {n size : Nat} {k : Option Nat} {x i : Opd} : step E ρ h (.idxA n size k x i) K = withV (pureV E.fid ρ h (.idxA n size k x i)) K h := step_F rfl
theorem runD_idxA {n size : Nat} {k : Option Nat} {x i : Opd} {ix : Nat} {d : Option Nat} {os : List DOper} : runD E (⟨ix, d, .idxA n size k x i, none, 0⟩ :: os) R t h hb hist = withV (pureV E.fid (oev E.fid t) hb (.idxA n size k x i)) (contDA E d os R t hb hist) h := runD_F rfl
theorem runDb_idxA {n size : Nat} {k : Option Nat} {x i : Opd} {ix : Nat} {d : Option Nat} {os : List DOper} {back : Nat} : runD E (⟨ix, d, .idxA n size k x i, none, back + 1⟩ :: os) R t h hb hist = withB (pureV E.fid (oev E.fid t) hb (.idxA n size k x i)) (hist.take (back + 1)) E t (.idxA n size k x i) (contDA E d os R t hb hist) h := runD_Fb rfl
theorem step_idxS {x i : Opd} : step E ρ h (.idxS x i) K = withV (pureV E.fid ρ h (.idxS x i)) K h := step_F rfl
theorem runD_idxS {x i : Opd} {ix : Nat} {d : Option Nat} {os : List DOper} : runD E (⟨ix, d, .idxS x i, none, 0⟩ :: os) R t h hb hist = withV (pureV E.fid (oev E.fid t) hb (.idxS x i)) (contDA E d os R t hb hist) h := runD_F rfl
theorem runDb_idxS {x i : Opd} {ix : Nat} {d : Option Nat} {os : List DOper} {back : Nat} : runD E (⟨ix, d, .idxS x i, none, back + 1⟩ :: os) R t h hb hist = withB (pureV E.fid (oev E.fid t) hb (.idxS x i)) (hist.take (back + 1)) E t (.idxS x i) (contDA E d os R t hb hist) h := runD_Fb rfl
theorem step_ext {x : Opd} {i : Nat} : step E ρ h (.ext x i) K = withV (pureV E.fid ρ h (.ext x i)) K h := step_F rfl
theorem runD_ext {x : Opd} {i : Nat} {ix : Nat} {d : Option Nat} {os : List DOper} : runD E (⟨ix, d, .ext x i, none, 0⟩ :: os) R t h hb hist = withV (pureV E.fid (oev E.fid t) hb (.ext x i)) (contDA E d os R t hb hist) h := runD_F rfl
theorem runDb_ext {x : Opd} {i : Nat} {ix : Nat} {d : Option Nat} {os : List DOper} {back : Nat} : runD E (⟨ix, d, .ext x i, none, back + 1⟩ :: os) R t h hb hist = withB (pureV E.fid (oev E.fid t) hb (.ext x i)) (hist.take (back + 1)) E t (.ext x i) (contDA E d os R t hb hist) h := runD_Fb rfl
theorem step_lenS {x : Opd} : step E ρ h (.lenS x) K = withV (pureV E.fid ρ h (.lenS x)) K h := step_F rfl
theorem runD_lenS {x : Opd} {ix : Nat} {d : Option Nat} {os : List DOper} : runD E (⟨ix, d, .lenS x, none, 0⟩ :: os) R t h hb hist = withV (pureV E.fid (oev E.fid t) hb (.lenS x)) (contDA E d os R t hb hist) h := runD_F rfl
theorem runDb_lenS {x : Opd} {ix : Nat} {d : Option Nat} {os : List DOper} {back : Nat} : runD E (⟨ix, d, .lenS x, none, back + 1⟩ :: os) R t h hb hist = withB (pureV E.fid (oev E.fid t) hb (.lenS x)) (hist.take (back + 1)) E t (.lenS x) (contDA E d os R t hb hist) h := runD_Fb rfl
theorem step_lenStr {x : Opd} : step E ρ h (.lenStr x) K = withV (pureV E.fid ρ h (.lenStr x)) K h := step_F rfl
theorem runD_lenStr {x : Opd} {ix : Nat} {d : Option Nat} {os : List DOper} : runD E (⟨ix, d, .lenStr x, none, 0⟩ :: os) R t h hb hist = withV (pureV E.fid (oev E.fid t) hb (.lenStr x)) (contDA E d os R t hb hist) h := runD_F rfl
theorem runDb_lenStr {x : Opd} {ix : Nat} {d : Option Nat} {os : List DOper} {back : Nat} : runD E (⟨ix, d, .lenStr x, none, back + 1⟩ :: os) R t h hb hist = withB (pureV E.fid (oev E.fid t) hb (.lenStr x)) (hist.take (back + 1)) E t (.lenStr x) (contDA E d os R t hb hist) h := runD_Fb rfl
theorem step_capS {x : Opd} : step E ρ h (.capS x) K = withV (pureV E.fid ρ h (.capS x)) K h := step_F rfl
theorem runD_capS {x : Opd} {ix : Nat} {d : Option Nat} {os : List DOper} : runD E (⟨ix, d, .capS x, none, 0⟩ :: os) R t h hb hist = withV (pureV E.fid (oev E.fid t) hb (.capS x)) (contDA E d os R t hb hist) h := runD_F rfl
theorem runDb_capS {x : Opd} {ix : Nat} {d : Option Nat} {os : List DOper} {back : Nat} : runD E (⟨ix, d, .capS x, none, back + 1⟩ :: os) R t h hb hist = withB (pureV E.fid (oev E.fid t) hb (.capS x)) (hist.take (back + 1)) E t (.capS x) (contDA E d os R t hb hist) h := runD_Fb rfl
theorem step_mn {x y : Opd} : step E ρ h (.mn x y) K = withV (pureV E.fid ρ h (.mn x y)) K h := step_F rfl
theorem runD_mn {x y : Opd} {ix : Nat} {d : Option Nat} {os : List DOper} : runD E (⟨ix, d, .mn x y, none, 0⟩ :: os) R t h hb hist = withV (pureV E.fid (oev E.fid t) hb (.mn x y)) (contDA E d os R t hb hist) h := runD_F rfl
theorem runDb_mn {x y : Opd} {ix : Nat} {d : Option Nat} {os : List DOper} {back : Nat} : runD E (⟨ix, d, .mn x y, none, back + 1⟩ :: os) R t h hb hist = withB (pureV E.fid (oev E.fid t) hb (.mn x y)) (hist.take (back + 1)) E t (.mn x y) (contDA E d os R t hb hist) h := runD_Fb rfl
theorem step_mx {x y : Opd} : step E ρ h (.mx x y) K = withV (pureV E.fid ρ h (.mx x y)) K h := step_F rfl
theorem runD_mx {x y : Opd} {ix : Nat} {d : Option Nat} {os : List DOper} : runD E (⟨ix, d, .mx x y, none, 0⟩ :: os) R t h hb hist = withV (pureV E.fid (oev E.fid t) hb (.mx x y)) (contDA E d os R t hb hist) h := runD_F rfl
theorem runDb_mx {x y : Opd} {ix : Nat} {d : Option Nat} {os : List DOper} {back : Nat} : runD E (⟨ix, d, .mx x y, none, back + 1⟩ :: os) R t h hb hist = withB (pureV E.fid (oev E.fid t) hb (.mx x y)) (hist.take (back + 1)) E t (.mx x y) (contDA E d os R t hb hist) h := runD_Fb rfl
theorem step_slStr {x : Opd} {lo hi : Option Opd} : step E ρ h (.slStr x lo hi) K = withV (pureV E.fid ρ h (.slStr x lo hi)) K h := step_F rfl
theorem runD_slStr {x : Opd} {lo hi : Option Opd} {ix : Nat} {d : Option Nat} {os : List DOper} : runD E (⟨ix, d, .slStr x lo hi, none, 0⟩ :: os) R t h hb hist = withV (pureV E.fid (oev E.fid t) hb (.slStr x lo hi)) (contDA E d os R t hb hist) h := runD_F rfl
theorem runDb_slStr {x : Opd} {lo hi : Option Opd} {ix : Nat} {d : Option Nat} {os : List DOper} {back : Nat} : runD E (⟨ix, d, .slStr x lo hi, none, back + 1⟩ :: os) R t h hb hist = withB (pureV E.fid (oev E.fid t) hb (.slStr x lo hi)) (hist.take (back + 1)) E t (.slStr x lo hi) (contDA E d os R t hb hist) h := runD_Fb rfl
theorem step_slSl {size : Nat} {x : Opd} {lo hi m : Option Opd} : step E ρ h (.slSl size x lo hi m) K = withV (pureV E.fid ρ h (.slSl size x lo hi m)) K h := step_F rfl
theorem runD_slSl {size : Nat} {x : Opd} {lo hi m : Option Opd} {ix : Nat} {d : Option Nat} {os : List DOper} : runD E (⟨ix, d, .slSl size x lo hi m, none, 0⟩ :: os) R t h hb hist = withV (pureV E.fid (oev E.fid t) hb (.slSl size x lo hi m)) (contDA E d os R t hb hist) h := runD_F rfl
theorem runDb_slSl {size : Nat} {x : Opd} {lo hi m : Option Opd} {ix : Nat} {d : Option Nat} {os : List DOper} {back : Nat} : runD E (⟨ix, d, .slSl size x lo hi m, none, back + 1⟩ :: os) R t h hb hist = withB (pureV E.fid (oev E.fid t) hb (.slSl size x lo hi m)) (hist.take (back + 1)) E t (.slSl size x lo hi m) (contDA E d os R t hb hist) h := runD_Fb rfl
theorem step_slArr {n size : Nat} {x : Opd} {lo hi m : Option Opd} : step E ρ h (.slArr n size x lo hi m) K = withV (pureV E.fid ρ h (.slArr n size x lo hi m)) K h := step_F rfl
theorem runD_slArr {n size : Nat} {x : Opd} {lo hi m : Option Opd} {ix : Nat} {d : Option Nat} {os : List DOper} : runD E (⟨ix, d, .slArr n size x lo hi m, none, 0⟩ :: os) R t h hb hist = withV (pureV E.fid (oev E.fid t) hb (.slArr n size x lo hi m)) (contDA E d os R t hb hist) h := runD_F rfl
theorem runDb_slArr {n size : Nat} {x : Opd} {lo hi m : Option Opd} {ix : Nat} {d : Option Nat} {os : List DOper} {back : Nat} : runD E (⟨ix, d, .slArr n size x lo hi m, none, back + 1⟩ :: os) R t h hb hist = withB (pureV E.fid (oev E.fid t) hb (.slArr n size x lo hi m)) (hist.take (back + 1)) E t (.slArr n size x lo hi m) (contDA E d os R t hb hist) h := runD_Fb rfl
theorem step_arrOf {n : Nat} {x : Opd} : step E ρ h (.arrOf n x) K = withV (pureV E.fid ρ h (.arrOf n x)) K h := step_F rfl
theorem runD_arrOf {n : Nat} {x : Opd} {ix : Nat} {d : Option Nat} {os : List DOper} : runD E (⟨ix, d, .arrOf n x, none, 0⟩ :: os) R t h hb hist = withV (pureV E.fid (oev E.fid t) hb (.arrOf n x)) (contDA E d os R t hb hist) h := runD_F rfl
theorem runDb_arrOf {n : Nat} {x : Opd} {ix : Nat} {d : Option Nat} {os : List DOper} {back : Nat} : runD E (⟨ix, d, .arrOf n x, none, back + 1⟩ :: os) R t h hb hist = withB (pureV E.fid (oev E.fid t) hb (.arrOf n x)) (hist.take (back + 1)) E t (.arrOf n x) (contDA E d os R t hb hist) h := runD_Fb rfl
theorem step_fn {n : Nat} {first captured : List Opd} : step E ρ h (.fn n first captured) K = withV (pureV E.fid ρ h (.fn n first captured)) K h := step_F rfl
theorem runD_fn {n : Nat} {first captured : List Opd} {ix : Nat} {d : Option Nat} {os : List DOper} : runD E (⟨ix, d, .fn n first captured, none, 0⟩ :: os) R t h hb hist = withV (pureV E.fid (oev E.fid t) hb (.fn n first captured)) (contDA E d os R t hb hist) h := runD_F rfl
theorem runDb_fn {n : Nat} {first captured : List Opd} {ix : Nat} {d : Option Nat} {os : List DOper} {back : Nat} : runD E (⟨ix, d, .fn n first captured, none, back + 1⟩ :: os) R t h hb hist = withB (pureV E.fid (oev E.fid t) hb (.fn n first captured)) (hist.take (back + 1)) E t (.fn n first captured) (contDA E d os R t hb hist) h := runD_Fb rfl
theorem step_build {z : List Value} {parts : List (Nat × Nat × Opd)} : step E ρ h (.build z parts) K = withV (pureV E.fid ρ h (.build z parts)) K h := step_F rfl
theorem runD_build {z : List Value} {parts : List (Nat × Nat × Opd)} {ix : Nat} {d : Option Nat} {os : List DOper} : runD E (⟨ix, d, .build z parts, none, 0⟩ :: os) R t h hb hist = withV (pureV E.fid (oev E.fid t) hb (.build z parts)) (contDA E d os R t hb hist) h := runD_F rfl
theorem runDb_build {z : List Value} {parts : List (Nat × Nat × Opd)} {ix : Nat} {d : Option Nat} {os : List DOper} {back : Nat} : runD E (⟨ix, d, .build z parts, none, back + 1⟩ :: os) R t h hb hist = withB (pureV E.fid (oev E.fid t) hb (.build z parts)) (hist.take (back + 1)) E t (.build z parts) (contDA E d os R t hb hist) h := runD_Fb rfl
theorem step_prim {p : Prim} {xs : List Opd} : step E ρ h (.prim p xs) K = withV (pureV E.fid ρ h (.prim p xs)) K h := step_F rfl
theorem runD_prim {p : Prim} {xs : List Opd} {ix : Nat} {d : Option Nat} {os : List DOper} : runD E (⟨ix, d, .prim p xs, none, 0⟩ :: os) R t h hb hist = withV (pureV E.fid (oev E.fid t) hb (.prim p xs)) (contDA E d os R t hb hist) h := runD_F rfl
theorem runDb_prim {p : Prim} {xs : List Opd} {ix : Nat} {d : Option Nat} {os : List DOper} {back : Nat} : runD E (⟨ix, d, .prim p xs, none, back + 1⟩ :: os) R t h hb hist = withB (pureV E.fid (oev E.fid t) hb (.prim p xs)) (hist.take (back + 1)) E t (.prim p xs) (contDA E d os R t hb hist) h := runD_Fb rfl
theorem step_lookup {kt : KeyT} {z : Value} {ok : Bool} {m k : Opd} : step E ρ h (.lookup kt z ok m k) K = withV (pureV E.fid ρ h (.lookup kt z ok m k)) K h := step_F rfl
theorem runD_lookup {kt : KeyT} {z : Value} {ok : Bool} {m k : Opd} {ix : Nat} {d : Option Nat} {os : List DOper} : runD E (⟨ix, d, .lookup kt z ok m k, none, 0⟩ :: os) R t h hb hist = withV (pureV E.fid (oev E.fid t) hb (.lookup kt z ok m k)) (contDA E d os R t hb hist) h := runD_F rfl
theorem runDb_lookup {kt : KeyT} {z : Value} {ok : Bool} {m k : Opd} {ix : Nat} {d : Option Nat} {os : List DOper} {back : Nat} : runD E (⟨ix, d, .lookup kt z ok m k, none, back + 1⟩ :: os) R t h hb hist = withB (pureV E.fid (oev E.fid t) hb (.lookup kt z ok m k)) (hist.take (back + 1)) E t (.lookup kt z ok m k) (contDA E d os R t hb hist) h := runD_Fb rfl
theorem step_lenM {m : Opd} : step E ρ h (.lenM m) K = withV (pureV E.fid ρ h (.lenM m)) K h := step_F rfl
theorem runD_lenM {m : Opd} {ix : Nat} {d : Option Nat} {os : List DOper} : runD E (⟨ix, d, .lenM m, none, 0⟩ :: os) R t h hb hist = withV (pureV E.fid (oev E.fid t) hb (.lenM m)) (contDA E d os R t hb hist) h := runD_F rfl
theorem runDb_lenM {m : Opd} {ix : Nat} {d : Option Nat} {os : List DOper} {back : Nat} : runD E (⟨ix, d, .lenM m, none, back + 1⟩ :: os) R t h hb hist = withB (pureV E.fid (oev E.fid t) hb (.lenM m)) (hist.take (back + 1)) E t (.lenM m) (contDA E d os R t hb hist) h := runD_Fb rfl
theorem step_alloc {z : List Value} : step E ρ h (.alloc z) K = withA (allocV ρ (.alloc z)) K h := step_A rfl
theorem runD_alloc {z : List Value} {ix back : Nat} {d : Option Nat} {os : List DOper} : runD E (⟨ix, d, .alloc z, none, back⟩ :: os) R t h hb hist = withA (allocV (oev E.fid t) (.alloc z)) (contDA E d os R t hb hist) h := runD_A rfl
theorem step_box {x : Opd} : step E ρ h (.box x) K = withA (allocV ρ (.box x)) K h := step_A rfl
theorem runD_box {x : Opd} {ix back : Nat} {d : Option Nat} {os : List DOper} : runD E (⟨ix, d, .box x, none, back⟩ :: os) R t h hb hist = withA (allocV (oev E.fid t) (.box x)) (contDA E d os R t hb hist) h := runD_A rfl
theorem step_bslice {n size : Nat} {z : List Value} {parts : List (Nat × Nat × Opd)} : step E ρ h (.bslice n size z parts) K = withA (allocV ρ (.bslice n size z parts)) K h := step_A rfl
theorem runD_bslice {n size : Nat} {z : List Value} {parts : List (Nat × Nat × Opd)} {ix back : Nat} {d : Option Nat} {os : List DOper} : runD E (⟨ix, d, .bslice n size z parts, none, back⟩ :: os) R t h hb hist = withA (allocV (oev E.fid t) (.bslice n size z parts)) (contDA E d os R t hb hist) h := runD_A rfl
theorem step_mslice {bytes : Nat} {z : List Value} {l c : Opd} : step E ρ h (.mslice bytes z l c) K = withA (allocV ρ (.mslice bytes z l c)) K h := step_A rfl
theorem runD_mslice {bytes : Nat} {z : List Value} {l c : Opd} {ix back : Nat} {d : Option Nat} {os : List DOper} : runD E (⟨ix, d, .mslice bytes z l c, none, back⟩ :: os) R t h hb hist = withA (allocV (oev E.fid t) (.mslice bytes z l c)) (contDA E d os R t hb hist) h := runD_A rfl
theorem step_mmap  : step E ρ h (.mmap ) K = withA (allocV ρ (.mmap )) K h := step_A rfl
theorem runD_mmap  {ix back : Nat} {d : Option Nat} {os : List DOper} : runD E (⟨ix, d, .mmap , none, back⟩ :: os) R t h hb hist = withA (allocV (oev E.fid t) (.mmap )) (contDA E d os R t hb hist) h := runD_A rfl
theorem runD_store {size : Nat} {a x : Opd} {ix back : Nat} {d : Option Nat} {os : List DOper} : runD E (⟨ix, d, .store size a x, none, back⟩ :: os) R t h hb hist = step E (oev E.fid t) h (.store size a x) (contDW E d os R t hb hist) := runD_W rfl
theorem runD_call {n : Nat} {args : List Opd} {ix back : Nat} {d : Option Nat} {os : List DOper} : runD E (⟨ix, d, .call n args, none, back⟩ :: os) R t h hb hist = step E (oev E.fid t) h (.call n args) (contDW E d os R t hb hist) := runD_W rfl
theorem runD_callv {f : Opd} {args : List Opd} {ix back : Nat} {d : Option Nat} {os : List DOper} : runD E (⟨ix, d, .callv f args, none, back⟩ :: os) R t h hb hist = step E (oev E.fid t) h (.callv f args) (contDW E d os R t hb hist) := runD_W rfl
theorem runD_append {size bytes : Nat} {s x : Opd} {ix back : Nat} {d : Option Nat} {os : List DOper} : runD E (⟨ix, d, .append size bytes s x, none, back⟩ :: os) R t h hb hist = step E (oev E.fid t) h (.append size bytes s x) (contDW E d os R t hb hist) := runD_W rfl
theorem runD_appendZ {size bytes : Nat} {z : List Value} {s n : Opd} {ix back : Nat} {d : Option Nat} {os : List DOper} : runD E (⟨ix, d, .appendZ size bytes z s n, none, back⟩ :: os) R t h hb hist = step E (oev E.fid t) h (.appendZ size bytes z s n) (contDW E d os R t hb hist) := runD_W rfl
theorem runD_copy {size : Nat} {dd s : Opd} {ix back : Nat} {d : Option Nat} {os : List DOper} : runD E (⟨ix, d, .copy size dd s, none, back⟩ :: os) R t h hb hist = step E (oev E.fid t) h (.copy size dd s) (contDW E d os R t hb hist) := runD_W rfl
theorem runD_mupd {kt : KeyT} {m k v : Opd} {ix back : Nat} {d : Option Nat} {os : List DOper} : runD E (⟨ix, d, .mupd kt m k v, none, back⟩ :: os) R t h hb hist = step E (oev E.fid t) h (.mupd kt m k v) (contDW E d os R t hb hist) := runD_W rfl
theorem runD_mdel {kt : KeyT} {m k : Opd} {ix back : Nat} {d : Option Nat} {os : List DOper} : runD E (⟨ix, d, .mdel kt m k, none, back⟩ :: os) R t h hb hist = step E (oev E.fid t) h (.mdel kt m k) (contDW E d os R t hb hist) := runD_W rfl
theorem runD_bytesOf {x : Opd} {ix back : Nat} {d : Option Nat} {os : List DOper} : runD E (⟨ix, d, .bytesOf x, none, back⟩ :: os) R t h hb hist = step E (oev E.fid t) h (.bytesOf x) (contDW E d os R t hb hist) := runD_W rfl
theorem runD_mark {x : Opd} {ix back : Nat} {d : Option Nat} {os : List DOper} : runD E (⟨ix, d, .mark x, none, back⟩ :: os) R t h hb hist = step E (oev E.fid t) h (.mark x) (contDW E d os R t hb hist) := runD_W rfl

def callO (E : Env) (n : Nat) (x : Option (List Value)) (h : Heap) (K : Value → Heap → Prop) : Prop := match x with | some vs => ACallN E n vs h K | none => False
theorem callO_some {n : Nat} {vs : List Value} : callO E n (some vs) h K = ACallN E n vs h K := rfl
theorem step_call {n : Nat} {args : List Opd} : step E ρ h (.call n args) K = callO E n (allV ρ args) h K := by
  show stepW E ρ h K (.call n args) = _
  simp only [stepW]; unfold callO; cases allV ρ args <;> rfl

def callvP (E : Env) (h : Heap) (K : Value → Heap → Prop) (f : Value) (vs : List Value) : Prop :=
  match f with
  | .func (.func g) first cap => (∃ m, E.fid m = some g) ∧ ACalls E g (first.toList ++ vs ++ cap.toList) h K
  | _ => False

def callvO (E : Env) (h : Heap) (K : Value → Heap → Prop) (f : Option Value) (x : Option (List Value)) : Prop := match f, x with | some f, some vs => callvP E h K f vs | _, _ => False
theorem callvO_some {f : Value} {vs : List Value} : callvO E h K (some f) (some vs) = callvP E h K f vs := rfl
theorem step_callv {f : Opd} {args : List Opd} : step E ρ h (.callv f args) K = callvO E h K (ρ f) (allV ρ args) := by
  show stepW E ρ h K (.callv f args) = _
  simp only [stepW]
  unfold callvO callvP
  cases ρ f with
  | none => rfl
  | some v => cases allV ρ args with
    | none => cases v <;> first | rfl | (rename_i fn _ _; cases fn <;> rfl)
    | some vs => cases v <;> first | rfl | (rename_i fn _ _; cases fn <;> rfl)

def storeV (h : Heap) (size : Nat) (p v : Value) : Option Heap :=
  match p with
  | .pointer (some a) => if v.cells.size = size ∧ v.cells.toList.all one = true then hstore h a v.cells.toList else none
  | _ => none

def storeO (h : Heap) (size : Nat) (p v : Option Value) : Option Heap := match p, v with | some p, some v => storeV h size p v | _, _ => none
theorem storeO_some {size : Nat} {p v : Value} : storeO h size (some p) (some v) = storeV h size p v := rfl
theorem step_store {size : Nat} {a x : Opd} : step E ρ h (.store size a x) K = withH (storeO h size (ρ a) (ρ x)) undef K := by
  show stepW E ρ h K (.store size a x) = _
  simp only [stepW]
  unfold withH storeO
  cases ρ a with
  | none => rfl
  | some av => cases ρ x with
    | none => cases av <;> first | rfl | (rename_i q; cases q <;> rfl)
    | some xv =>
      cases av <;> try rfl
      rename_i q
      cases q with
      | none => rfl
      | some q =>
        simp only [storeV]
        by_cases hc : xv.cells.size = size ∧ xv.cells.toList.all one = true
        · rw [if_pos hc]
          have h2 : ∀ u ∈ xv.cells.toList, one u = true := List.all_eq_true.1 hc.2
          cases hstore h q xv.cells.toList with
          | none => simp
          | some h' => simp only [hc.1, true_and]; exact propext ⟨fun p => p.2, fun p => ⟨h2, p⟩⟩
        · rw [if_neg hc]
          refine propext ⟨fun p => hc ⟨p.1, List.all_eq_true.2 p.2.1⟩, fun p => p.elim⟩

def appendP (size bytes : Nat) (h : Heap) (s x : Value) (K : Value → Heap → Prop) : Prop :=
  match s with
  | .slice base n c => (match readX h size x with | some (m, news) => appendW size bytes h base n c m news K | none => False)
  | _ => False

def appendO (size bytes : Nat) (h : Heap) (s x : Option Value) (K : Value → Heap → Prop) : Prop := match s, x with | some s, some x => appendP size bytes h s x K | _, _ => False
theorem appendO_some {size bytes : Nat} {s x : Value} : appendO size bytes h (some s) (some x) K = appendP size bytes h s x K := rfl
theorem step_append {size bytes : Nat} {s x : Opd} : step E ρ h (.append size bytes s x) K = appendO size bytes h (ρ s) (ρ x) K := by
  show stepW E ρ h K (.append size bytes s x) = _
  simp only [stepW]
  unfold appendO appendP
  cases ρ s with
  | none => rfl
  | some v => cases ρ x with
    | none => cases v <;> rfl
    | some u => cases v <;> rfl

def appendZP (size bytes : Nat) (z : List Value) (h : Heap) (s x : Value) (K : Value → Heap → Prop) : Prop :=
  match s, x with
  | .slice base n c, .int _ m => 0 ≤ m ∧ m ≤ 9223372036854775807 ∧ m * bytes ≤ 281474976710656 ∧ appendW size bytes h base n c m.toNat (List.flatten (List.replicate m.toNat z)) K
  | _, _ => False

def appendZO (size bytes : Nat) (z : List Value) (h : Heap) (s x : Option Value) (K : Value → Heap → Prop) : Prop := match s, x with | some s, some x => appendZP size bytes z h s x K | _, _ => False
theorem appendZO_some {size bytes : Nat} {z : List Value} {s x : Value} : appendZO size bytes z h (some s) (some x) K = appendZP size bytes z h s x K := rfl
theorem step_appendZ {size bytes : Nat} {z : List Value} {s x : Opd} : step E ρ h (.appendZ size bytes z s x) K = appendZO size bytes z h (ρ s) (ρ x) K := by
  show stepW E ρ h K (.appendZ size bytes z s x) = _
  simp only [stepW]
  unfold appendZO appendZP
  cases ρ s with
  | none => rfl
  | some v => cases ρ x with
    | none => cases v <;> rfl
    | some u => cases v <;> cases u <;> rfl

def copyP (size : Nat) (h : Heap) (d s : Value) (K : Value → Heap → Prop) : Prop :=
  match d, s with
  | .slice base n _, .slice (some b) m _ =>
    (match hcells h b (min m n * size) with
    | some l =>
      (∀ u ∈ l, one u = true) ∧
      (match base with
      | none => K (.int .i64 (min m n : Nat)) h
      | some a => (match hstore h a l with | some h' => K (.int .i64 (min m n : Nat)) h' | none => False))
    | none => False)
  | .slice base n _, .slice none m _ => m = 0 ∧ K (.int .i64 0) h
  | .slice base n _, .string s =>
    (match base with
    | none => K (.int .i64 (min s.size n : Nat)) h
    | some a => size = 1 ∧ (match hstore h a ((s.data.toList.take (min s.size n)).map fun b => .int .u8 b.toNat) with | some h' => K (.int .i64 (min s.size n : Nat)) h' | none => False))
  | _, _ => False

def copyO (size : Nat) (h : Heap) (d s : Option Value) (K : Value → Heap → Prop) : Prop := match d, s with | some d, some s => copyP size h d s K | _, _ => False
theorem copyO_some {size : Nat} {d s : Value} : copyO size h (some d) (some s) K = copyP size h d s K := rfl
theorem step_copy {size : Nat} {d s : Opd} : step E ρ h (.copy size d s) K = copyO size h (ρ d) (ρ s) K := by
  show stepW E ρ h K (.copy size d s) = _
  simp only [stepW]
  unfold copyO copyP
  cases ρ d with
  | none => rfl
  | some v => cases ρ s with
    | none => cases v <;> rfl
    | some u =>
      cases v <;> cases u <;> try rfl
      rename_i base n c b m k
      cases b <;> rfl

def mupdV (h : Heap) (kt : KeyT) (m k v : Value) : Option Heap :=
  match m with
  | .map (some r) =>
    (match h r with
    | some (.obj (.map es c)) =>
      (match keyFit kt k, findV kt k es.toList 0 with
      | some _, some (some (i, _)) => some (h.set r (.obj (.map (es.modify i fun e => { e with key := k, val := v }) c)))
      | some _, some none => some (h.set r (.obj (.map (es.push { key := k, val := v, born := c }) (c + 1))))
      | _, _ => none)
    | _ => none)
  | _ => none

def mupdO (h : Heap) (kt : KeyT) (m k v : Option Value) : Option Heap := match m, k, v with | some m, some k, some v => mupdV h kt m k v | _, _, _ => none
theorem mupdO_some {kt : KeyT} {m k v : Value} : mupdO h kt (some m) (some k) (some v) = mupdV h kt m k v := rfl
theorem step_mupd {kt : KeyT} {m k v : Opd} : step E ρ h (.mupd kt m k v) K = withH (mupdO h kt (ρ m) (ρ k) (ρ v)) undef K := by
  show stepW E ρ h K (.mupd kt m k v) = _
  simp only [stepW]
  unfold withH mupdO
  cases ρ m with
  | none => rfl
  | some mv => cases ρ k with
    | none => cases mv <;> first | rfl | (rename_i r; cases r <;> rfl)
    | some kv => cases ρ v with
      | none => cases mv <;> first | rfl | (rename_i r; cases r <;> rfl)
      | some vv =>
        cases mv <;> try rfl
        rename_i r
        cases r with
        | none => rfl
        | some r =>
          simp only [mupdV]
          cases h r with
          | none => rfl
          | some x =>
            cases x with
            | own => rfl
            | ro => rfl
            | obj o =>
              cases o <;> try rfl
              rename_i es c
              simp only
              cases keyFit kt kv with
              | none => rfl
              | some u => cases findV kt kv es.toList 0 with
                | none => rfl
                | some q => cases q <;> rfl

def mdelV (h : Heap) (kt : KeyT) (m k : Value) : Option Heap :=
  match m with
  | .map (some r) =>
    (match h r with
    | some (.obj (.map es c)) =>
      (match keyFit kt k, findV kt k es.toList 0 with
      | some _, some (some (i, _)) => some (h.set r (.obj (.map (es.eraseIdxIfInBounds i) c)))
      | some _, some none => some (h.set r (.obj (.map es c)))
      | _, _ => none)
    | _ => none)
  | _ => none

def mdelO (h : Heap) (kt : KeyT) (m k : Option Value) : Option Heap := match m, k with | some m, some k => mdelV h kt m k | _, _ => none
theorem mdelO_some {kt : KeyT} {m k : Value} : mdelO h kt (some m) (some k) = mdelV h kt m k := rfl
theorem step_mdel {kt : KeyT} {m k : Opd} : step E ρ h (.mdel kt m k) K = withH (mdelO h kt (ρ m) (ρ k)) (.tuple #[]) K := by
  show stepW E ρ h K (.mdel kt m k) = _
  simp only [stepW]
  unfold withH mdelO
  cases ρ m with
  | none => rfl
  | some mv => cases ρ k with
    | none => cases mv <;> first | rfl | (rename_i r; cases r <;> rfl)
    | some kv =>
        cases mv <;> try rfl
        rename_i r
        cases r with
        | none => rfl
        | some r =>
          simp only [mdelV]
          cases h r with
          | none => rfl
          | some x =>
            cases x with
            | own => rfl
            | ro => rfl
            | obj o =>
              cases o <;> try rfl
              rename_i es c
              simp only
              cases keyFit kt kv with
              | none => rfl
              | some u => cases findV kt kv es.toList 0 with
                | none => rfl
                | some q => cases q <;> rfl

def bytesOfP (h : Heap) (x : Value) (K : Value → Heap → Prop) : Prop :=
  match x with
  | .string s => ∀ b c', h b = none → s.size ≤ c' → K (.slice (some ⟨b, 0, none⟩) s.size c') (h.set b (.own 0 (s.data.toList.map fun b => .int .u8 b.toNat) c'))
  | _ => False

def bytesOfO (h : Heap) (x : Option Value) (K : Value → Heap → Prop) : Prop := match x with | some x => bytesOfP h x K | none => False
theorem bytesOfO_some {x : Value} : bytesOfO h (some x) K = bytesOfP h x K := rfl
theorem step_bytesOf {x : Opd} : step E ρ h (.bytesOf x) K = bytesOfO h (ρ x) K := by
  show stepW E ρ h K (.bytesOf x) = _
  simp only [stepW]
  unfold bytesOfO bytesOfP
  cases ρ x with
  | none => rfl
  | some v => cases v <;> rfl

def markV (h : Heap) (x : Value) : Option Value :=
  match x with
  | .slice (some a) n c => (match h a.block with | some (.own _ _ _) => some (.slice (some a) n c) | _ => none)
  | _ => none

def markO (h : Heap) (x : Option Value) : Option Value := match x with | some x => markV h x | none => none
theorem markO_some {x : Value} : markO h (some x) = markV h x := rfl
theorem step_mark {x : Opd} : step E ρ h (.mark x) K = withV (markO h (ρ x)) K h := by
  show stepW E ρ h K (.mark x) = _
  simp only [stepW]
  unfold withV markO markV
  cases ρ x with
  | none => rfl
  | some v =>
    cases v <;> try rfl
    rename_i a n c
    cases a with
    | none => rfl
    | some a =>
      simp only
      cases h a.block with
      | none => rfl
      | some y => cases y <;> rfl

theorem oev_t {fid : Nat → Option FuncId} {i : Nat} : oev fid t (.t i) = t i := rfl
theorem oev_c {fid : Nat → Option FuncId} {v : Value} : oev fid t (.c v) = some v := rfl

def consO (k : Nat) : Option Value → List (Nat × Value) → List (Nat × Value)
  | some v, l => (k, v) :: l
  | none, l => l
def keepL : List Nat → T → List (Nat × Value)
  | [], _ => []
  | k :: ks, t => consO k (t k) (keepL ks t)
theorem tkeep_eq (ks : List Nat) (t : T) : tkeep ks t = tl (keepL ks t) := by
  rw [tkeep_def]
  congr 1
  induction ks with
  | nil => rfl
  | cons k ks ih =>
    rw [List.filterMap_cons, keepL, ih]
    cases t k <;> rfl
end

/-! ### heaps -/
theorem Heap.set_self (h : Heap) (b : Nat) (x : Blk) : h.set b x b = some x := by simp [Heap.set]
theorem Heap.set_ne {h : Heap} {b c : Nat} {x : Blk} (e : c ≠ b) : h.set b x c = h c := by simp [Heap.set, e]
theorem Heap.set_set (h : Heap) (b : Nat) (x y : Blk) : (h.set b x).set b y = h.set b y := by
  funext c; simp only [Heap.set]; split <;> rfl
theorem Heap.set_none {h : Heap} {b c : Nat} {x : Blk} : h.set b x c = none ↔ c ≠ b ∧ h c = none := by
  unfold Heap.set
  split
  · rename_i e; simp [e]
  · rename_i e; simp [e]

theorem Heap.le_refl (h : Heap) : h.le h := fun _ _ x => x
theorem Heap.le_trans {a b c : Heap} (x : a.le b) (y : b.le c) : a.le c := fun i v h => y i v (x i v h)
theorem Heap.le_set {h h' : Heap} (x : h.le h') {b : Nat} (hb : h b = none) (y : Blk) : h.le (h'.set b y) := by
  intro i v hv
  unfold Heap.set
  split
  · rename_i e; subst e; rw [hb] at hv; cases hv
  · exact x i v hv
theorem Heap.none_of_le {h h' : Heap} (x : h.le h') {b : Nat} (hb : h' b = none) : h b = none := by
  cases e : h b with
  | none => rfl
  | some y => rw [x b y e] at hb; cases hb

theorem hcell_le {h h' : Heap} (x : h.le h') {a : Addr} {v : Value} (e : hcell h a = some v) : hcell h' a = some v := by
  unfold hcell at *
  split
  · rename_i hs; rw [hs] at e; cases e
  · rename_i hs
    rw [hs] at e
    simp only at e
    cases hb : h a.block with
    | none => rw [hb] at e; cases e
    | some y => rw [x _ _ hb]; rw [hb] at e; exact e

theorem hcells_le {h h' : Heap} (x : h.le h') {a : Addr} {n : Nat} {l : List Value} (e : hcells h a n = some l) : hcells h' a n = some l := by
  cases n with
  | zero => exact e
  | succ n =>
    simp only [hcells] at *
    split
    · rename_i hs; rw [hs] at e; cases e
    · rename_i hs
      rw [hs] at e
      simp only at e
      cases hb : h a.block with
      | none => rw [hb] at e; cases e
      | some y => rw [x _ _ hb]; rw [hb] at e; exact e

/-- Cells within what is known of a block of ours. -/
theorem hcells_own {h : Heap} {b o n st sz : Nat} {vs : List Value} (hb : h b = some (.own st vs sz)) (h1 : st ≤ o) (h2 : o - st + n ≤ vs.length) : hcells h ⟨b, o, none⟩ n = some ((vs.drop (o - st)).take n) := by
  cases n with
  | zero => simp [hcells]
  | succ n => simp [hcells, hb, h1, h2]

theorem hcells_own0 {h : Heap} {b n sz : Nat} {vs : List Value} (hb : h b = some (.own 0 vs sz)) (h2 : vs.length = n) : hcells h ⟨b, 0, none⟩ n = some vs := by
  rw [hcells_own hb (Nat.le_refl _) (by omega)]
  simp [← h2]

theorem hcells_sub {h : Heap} {b o n : Nat} {l : List Value} (e : hcells h ⟨b, o, none⟩ n = some l) (i m : Nat) (hi : i + m ≤ n) : hcells h ⟨b, o + i, none⟩ m = some ((l.drop i).take m) := by
  cases m with
  | zero => simp [hcells]
  | succ m =>
    cases n with
    | zero => omega
    | succ n =>
      simp only [hcells] at *
      split at e
      · rename_i st vs sz hb
        split at e
        · rename_i hc
          simp only [Option.some.injEq] at e; subst e
          rw [if_pos (by omega)]
          congr 1
          rw [List.drop_take, List.take_take, List.drop_drop, show o + i - st = o - st + i from by omega]
          congr 1
          omega
        · cases e
      · rename_i c el fr hb
        split at e
        · rename_i hc
          simp only [Option.some.injEq] at e; subst e
          rw [if_pos (by omega)]
          congr 1
          rw [List.drop_take, List.take_take, List.drop_drop]
          congr 1
          omega
        · cases e
      · cases e

theorem hcell_of {h : Heap} {b o n : Nat} {l : List Value} (e : hcells h ⟨b, o, none⟩ n = some l) (i : Nat) (hi : i < n) : hcell h ⟨b, o + i, none⟩ = l[i]? := by
  have hl := hcells_length e
  have hlt : i < l.length := by omega
  have := hcell_of_hcells e (i := i) (v := l[i]) (by simp [hlt])
  rw [List.getElem?_eq_getElem hlt, ← this]
  congr 1
  unfold Addr.add
  split
  · rename_i hz; subst hz; rfl
  · rfl

/-! ### a slice that is read -/
/-- A slice's value: of n elements of some cells each; what they hold. -/
def Sl (h : Heap) (size : Nat) (v : Value) (n : Nat) (cells : List Value) : Prop :=
  (v = .slice none 0 0 ∧ n = 0 ∧ cells = []) ∨ ∃ a c, v = .slice (some a) n c ∧ n ≤ c ∧ hcells h a (n * size) = some cells

theorem Sl.le {h h' : Heap} (x : h.le h') {size : Nat} {v : Value} {n : Nat} {cells : List Value} (s : Sl h size v n cells) : Sl h' size v n cells := by
  rcases s with s | ⟨a, c, h1, h2, h3⟩
  · exact .inl s
  · exact .inr ⟨a, c, h1, h2, hcells_le x h3⟩

theorem Sl.length {h : Heap} {size : Nat} {v : Value} {n : Nat} {cells : List Value} (s : Sl h size v n cells) : cells.length = n * size := by
  rcases s with ⟨_, rfl, rfl⟩ | ⟨a, c, h1, h2, h3⟩
  · simp
  · exact hcells_length h3

theorem hcells_spot {h : Heap} {a : Addr} {n : Nat} {l : List Value} (e : hcells h a n = some l) (hn : 0 < n) : a = ⟨a.block, a.off, none⟩ := by
  obtain ⟨b, o, s⟩ := a
  cases n with
  | zero => omega
  | succ n =>
    cases s with
    | none => rfl
    | some s => simp [hcells] at e

/-- A slice that has something in it. -/
theorem Sl.ptr {h : Heap} {size : Nat} {v : Value} {n : Nat} {cells : List Value} (s : Sl h size v n cells) (hn : 0 < n) (hs : 0 < size) : ∃ b o c, v = .slice (some ⟨b, o, none⟩) n c ∧ n ≤ c ∧ hcells h ⟨b, o, none⟩ (n * size) = some cells := by
  rcases s with ⟨_, rfl, _⟩ | ⟨a, c, h1, h2, h3⟩
  · omega
  · have := hcells_spot h3 (Nat.mul_pos hn hs)
    rw [this] at h1 h3
    exact ⟨_, _, c, h1, h2, h3⟩

/-- A slice that is ours, whole, since h0. -/
def Ow (h0 h : Heap) (size : Nat) (v : Value) (n : Nat) (cells : List Value) : Prop :=
  (v = .slice none 0 0 ∧ n = 0 ∧ cells = []) ∨ ∃ b o c sz, v = .slice (some ⟨b, o, none⟩) n c ∧ n ≤ c ∧ h0 b = none ∧ h b = some (.own o cells sz) ∧ cells.length = n * size ∧ o + c * size ≤ sz

theorem Ow.sl {h0 h : Heap} {size : Nat} {v : Value} {n : Nat} {cells : List Value} (s : Ow h0 h size v n cells) : Sl h size v n cells := by
  rcases s with s | ⟨b, o, c, sz, h1, h2, h3, h4, h5, h6⟩
  · exact .inl s
  · refine .inr ⟨⟨b, o, none⟩, c, h1, h2, ?_⟩
    rw [hcells_own h4 (Nat.le_refl _) (by simp [h5])]
    simp [← h5]

theorem Ow.le {h0 h h' : Heap} (x : h.le h') {size : Nat} {v : Value} {n : Nat} {cells : List Value} (s : Ow h0 h size v n cells) : Ow h0 h' size v n cells := by
  rcases s with s | ⟨b, o, c, sz, h1, h2, h3, h4, h5, h6⟩
  · exact .inl s
  · exact .inr ⟨b, o, c, sz, h1, h2, h3, x _ _ h4, h5, h6⟩

theorem Ow.since {h0 h1 h : Heap} (x : h0.le h1) {size : Nat} {v : Value} {n : Nat} {cells : List Value} (s : Ow h1 h size v n cells) : Ow h0 h size v n cells := by
  rcases s with s | ⟨b, o, c, sz, g1, g2, g3, g4, g5, g6⟩
  · exact .inl s
  · exact .inr ⟨b, o, c, sz, g1, g2, Heap.none_of_le x g3, g4, g5, g6⟩

theorem Ow.nil (h0 h : Heap) (size : Nat) : Ow h0 h size (.slice none 0 0) 0 [] := .inl ⟨rfl, rfl, rfl⟩

/-- What is appended to a slice that is ours. -/
theorem append_ow {size bytes : Nat} {h0 h : Heap} {base : Option Addr} {n c m : Nat} {cells news : List Value} {K : Value → Heap → Prop} (hle : h0.le h) (hsz : 0 < size) (s : Ow h0 h size (.slice base n c) n cells) (hlen : news.length = m * size) (h1 : ∀ u ∈ news, one u = true)
    (hb : (n + m) * bytes ≤ 140737488355328) (hm : n + m ≤ 9223372036854775807)
    (hk : ∀ v h', Ow h0 h' size v (n + m) (cells ++ news) → h0.le h' → K v h') : appendW size bytes h base n c m news K := by
  unfold appendW
  rcases s with ⟨e, rfl, rfl⟩ | ⟨b, o, c', sz, e, g2, g3, g4, g5, g6⟩
  · simp only [Value.slice.injEq] at e
    obtain ⟨rfl, _, rfl⟩ := e
    split
    · rename_i hfit
      have hm0 : m = 0 := by omega
      subst hm0
      have hn : news = [] := List.eq_nil_of_length_eq_zero (by simpa using hlen)
      subst hn
      exact hk _ _ (.inl ⟨rfl, rfl, rfl⟩) hle
    · refine ⟨hb, hm, ?_⟩
      simp only [oldOf, if_true]
      intro b c' hbn hge
      refine hk _ _ (.inr ⟨b, 0, c', c' * size, rfl, hge, Heap.none_of_le hle hbn, Heap.set_self _ _ _, by simp [hlen], by omega⟩) (Heap.le_set hle (Heap.none_of_le hle hbn) _)
  · simp only [Value.slice.injEq] at e
    obtain ⟨rfl, _, rfl⟩ := e
    split
    · rename_i hfit
      simp only
      have hst : ∃ h', hstore h ((⟨b, o, none⟩ : Addr).add (n * size)) news = some h' ∧ h' = h.set b (.own o (cells ++ news) sz) := by
        cases news with
        | nil =>
          refine ⟨h, rfl, ?_⟩
          funext i
          unfold Heap.set
          split
          · rename_i e; subst e; rw [g4]; simp
          · rfl
        | cons u us =>
          have ha : ((⟨b, o, none⟩ : Addr).add (n * size)) = ⟨b, o + n * size, none⟩ := by
            unfold Addr.add; split
            · rename_i hz; simp [hz]
            · rfl
          refine ⟨_, ?_, rfl⟩
          rw [ha]
          have hfit2 : (n + m) * size ≤ c * size := Nat.mul_le_mul_right _ hfit
          rw [Nat.add_mul] at hfit2
          simp only [hstore, g4]
          rw [if_pos ⟨by omega, by omega, by rw [hlen]; omega⟩]
          have : o + n * size - o = cells.length := by omega
          rw [this]
          simp only [splice, List.take_length]
          rw [List.drop_eq_nil_of_le (by omega), List.append_nil]
      obtain ⟨h', e1, rfl⟩ := hst
      rw [e1]
      refine ⟨h1, hk _ _ (.inr ⟨b, o, c, sz, rfl, hfit, g3, Heap.set_self _ _ _, by simp [g5, hlen, Nat.add_mul], g6⟩) (Heap.le_set hle g3 _)⟩
    · refine ⟨hb, hm, ?_⟩
      have : oldOf h n (n * size) (some ⟨b, o, none⟩) = some cells := by
        simp only [oldOf]
        rw [hcells_own g4 (Nat.le_refl _) (by simp [g5])]
        simp [← g5]
      rw [this]
      intro b' c' hbn hge
      exact hk _ _ (.inr ⟨b', 0, c', c' * size, rfl, hge, Heap.none_of_le hle hbn, Heap.set_self _ _ _, by simp [g5, hlen, Nat.add_mul], by omega⟩) (Heap.le_set hle (Heap.none_of_le hle hbn) _)

theorem readX_sl {h : Heap} {size : Nat} {v : Value} {n : Nat} {cells : List Value} (s : Sl h size v n cells) : readX h size v = some (n, cells) := by
  rcases s with ⟨rfl, rfl, rfl⟩ | ⟨a, c, rfl, h2, h3⟩
  · simp [readX]
  · simp [readX, h3]

end Go.Bb
