/- The engine: BbU BbUh BbZ BbW BbOp. -/
import Derived.Test.YthealcnfgedddaaBbG2
import Derived.Below
import Derived.ChangeArms
import Derived.OpenShut
import Derived.ChangeSlices
namespace Go.Bb
set_option linter.unusedSimpArgs false
set_option linter.unusedVariables false
theorem z6s (t : T) (d : Nat) (v : Value) (i : Nat) : tput t (some d) v i = if i = d then some v else t i := rfl
theorem z6t (t : T) (v : Value) : tput t none v = t := rfl
theorem z6u (i : Nat) : tl [] i = none := rfl
theorem z6v (j : Nat) (v : Value) (r : List (Nat × Value)) (i : Nat) : tl ((j, v) :: r) i = if i = j then some v else tl r i := rfl
theorem qkc (ks : List Nat) (t : T) : qhg ks t = tl (ks.filterMap fun k => (t k).map fun v => (k, v)) := rfl
theorem q3s {tab : Nat → Option (Hint × q0d)} {E : EnvT tab} {n : Nat} {args : List Value} {h : Heap} {Q : Value → Heap → Prop} (H : Hint) (af : q0d) (htab : tab n = some (H, af)) (hargs : Nat.ble args.length af.nt = true)
    (p : AW E.toEnv af.nt af.body (qRet af.results Q) (tl (z6z 0 args)) h) : ACallN E.toEnv n args h Q :=
  qk6 (hf := (H, af)) htab (Nat.le_of_ble_eq_true hargs) p
def qh3 (E : Env) (d : Option Nat) (os : List AOper) (R : T → Heap → Prop) (t : T) : Value → Heap → Prop := fun v h => q70 E os R (tput t d v) h
theorem z15 {E : Env} {d : Option Nat} {os : List AOper} {R : T → Heap → Prop} {t : T} {v : Value} {h : Heap} : qh3 E d os R t v h = q70 E os R (tput t d v) h := rfl
def q9o (E : Env) (d : Option Nat) (os : List DOper) (R : T → Heap → Prop) (t : T) (hb : Heap) (hist : List Heap) : Value → Heap → Prop := fun v h => runD E os R (tput t d v) h h (hb :: hist)
theorem z16 {E : Env} {d : Option Nat} {os : List DOper} {R : T → Heap → Prop} {t : T} {hb : Heap} {hist : List Heap} {v : Value} {h : Heap} : q9o E d os R t hb hist v h = runD E os R (tput t d v) h h (hb :: hist) := rfl
def q04 (E : Env) (d : Option Nat) (os : List DOper) (R : T → Heap → Prop) (t : T) (hb : Heap) (hist : List Heap) : Value → Heap → Prop := fun v h => runD E os R (tput t d v) h hb hist
theorem z17 {E : Env} {d : Option Nat} {os : List DOper} {R : T → Heap → Prop} {t : T} {hb : Heap} {hist : List Heap} {v : Value} {h : Heap} : q04 E d os R t hb hist v h = runD E os R (tput t d v) h hb hist := rfl
def qls (keep : List Nat) (Q : AExit → T → Heap → Prop) : T → Heap → Prop := fun t h => Q .normal (qhg keep t) h
theorem z18 {keep : List Nat} {Q : AExit → T → Heap → Prop} {t : T} {h : Heap} : qls keep Q t h = Q .normal (qhg keep t) h := rfl
def q0b (x : Option Value) (K : Value → Heap → Prop) (h : Heap) : Prop := match x with | some v => K v h | none => False
theorem z19 {v : Value} {K : Value → Heap → Prop} {h : Heap} : q0b (some v) K h = K v h := rfl
theorem z1a {K : Value → Heap → Prop} {h : Heap} : q0b none K h = False := rfl
def qhd (x : Option Heap) (v : Value) (K : Value → Heap → Prop) : Prop := match x with | some h => K v h | none => False
theorem z1b {v : Value} {K : Value → Heap → Prop} {h : Heap} : qhd (some h) v K = K v h := rfl
theorem z1c {v : Value} {K : Value → Heap → Prop} : qhd none v K = False := rfl
def qad (x : Option (Blk × (Nat → Value))) (K : Value → Heap → Prop) (h : Heap) : Prop := match x with | some (blk, mk) => ∀ b, h b = none → K (mk b) (h.set b blk) | none => False
theorem z1d {h : Heap} {blk : Blk} {mk : Nat → Value} {K : Value → Heap → Prop} : qad (some (blk, mk)) K h = ∀ b, h b = none → K (mk b) (h.set b blk) := rfl
theorem z1e {h : Heap} {K : Value → Heap → Prop} : qad none K h = False := rfl
def wpA (E : Env) (N : Nat) : ACode → (AExit → T → Heap → Prop) → T → Heap → Prop
  | .skip, Q, t, h => Q .normal t h
  | .ops os keep, Q, t, h => q70 E os (qls keep Q) t h
  | .dops os keep, Q, t, h => runD E os (qls keep Q) t h h []
  | .seq a b, Q, t, h => wpA E N a (qSeq (wpA E N b Q) Q) t h
  | .cond c a b, Q, t, h => match oev E.fid t c with | some (.bool b') => (b' = true → wpA E N a Q t h) ∧ (b' = false → wpA E N b Q t h) | _ => False
  | .block id c, Q, t, h => wpA E N c (qbf id Q) t h
  | .scope c, Q, t, h => wpA E N c Q t h
  | .exit id, Q, t, h => Q (.exit id) t h
  | .ret, Q, t, h => Q .ret t h
  | .loop c, Q, t, h => AW E N (.loop c) Q t h
  | .bad, _, _, _ => False
theorem q01 {E : Env} {N : Nat} : ∀ {c : ACode} {Q : AExit → T → Heap → Prop} {t : T} {h : Heap}, wpA E N c Q t h → AW E N c Q t h
  | .skip, Q, t, h, p => aw_skip p
  | .ops os keep, Q, t, h, p => aw_ops p
  | .dops os keep, Q, t, h, p => aw_dops p
  | .seq a b, Q, t, h, p => aw_seq ((q01 (c := a) p).mono fun e t' h' hq => by
      cases e with
      | normal => exact q01 (c := b) hq
      | exit i => exact hq
      | ret => exact hq)
  | .cond c a b, Q, t, h, p => by
    simp only [wpA] at p
    split at p
    · rename_i b' hb
      exact aw_cond hb (fun e => q01 (p.1 e)) (fun e => q01 (p.2 e))
    · exact p.elim
  | .block id c, Q, t, h, p => aw_block (q01 (c := c) p)
  | .scope c, Q, t, h, p => aw_scope (q01 (c := c) p)
  | .exit id, Q, t, h, p => aw_exit p
  | .ret, Q, t, h, p => aw_ret p
  | .loop c, Q, t, h, p => p
  | .bad, Q, t, h, p => p.elim
def qfv (c : Prop) (E : Env) (N : Nat) (a : ACode) (Q : AExit → T → Heap → Prop) (t : T) (h : Heap) : Prop := c → wpA E N a Q t h
def qiv (x : Option Value) (E : Env) (N : Nat) (a b : ACode) (Q : AExit → T → Heap → Prop) (t : T) (h : Heap) : Prop :=
  match x with
  | some (.bool b') => qfv (b' = true) E N a Q t h ∧ qfv (b' = false) E N b Q t h
  | _ => False
theorem q3j {E : Env} {N : Nat} {Q : AExit → T → Heap → Prop} {t : T} {h : Heap} {x : ACode} (I : Nat → T → Heap → Prop) (n : Nat) (h0 : I n t h) (round : ∀ n t h, I n t h → wpA E N x (qSeq (fun t h => ∃ m, m < n ∧ I m t h) Q) t h) : AW E N (.loop x) Q t h :=
  aw_loop I n h0 fun n t h hi => q01 (round n t h hi)
section
variable {E : Env} {N : Nat} {Q : AExit → T → Heap → Prop} {t : T} {h : Heap}
theorem z00 : wpA E N .skip Q t h = Q .normal t h := rfl
theorem z01 {os : List AOper} {keep : List Nat} : wpA E N (.ops os keep) Q t h = q70 E os (qls keep Q) t h := rfl
theorem z02 {os : List DOper} {keep : List Nat} : wpA E N (.dops os keep) Q t h = runD E os (qls keep Q) t h h [] := rfl
theorem z03 {a b : ACode} : wpA E N (.seq a b) Q t h = wpA E N a (qSeq (wpA E N b Q) Q) t h := rfl
theorem z04 {c : Opd} {a b : ACode} : wpA E N (.cond c a b) Q t h = qiv (oev E.fid t c) E N a b Q t h := by
  simp only [wpA, qiv, qfv]
theorem z05 {id : Nat} {c : ACode} : wpA E N (.block id c) Q t h = wpA E N c (qbf id Q) t h := rfl
theorem z06 {c : ACode} : wpA E N (.scope c) Q t h = wpA E N c Q t h := rfl
theorem z07 {id : Nat} : wpA E N (.exit id) Q t h = Q (.exit id) t h := rfl
theorem z08 : wpA E N .ret Q t h = Q .ret t h := rfl
theorem z09 {c : ACode} : wpA E N (.loop c) Q t h = AW E N (.loop c) Q t h := rfl
theorem z0a {a : ACode} : qfv True E N a Q t h = wpA E N a Q t h := by simp [qfv]
theorem z0b {a : ACode} : qfv False E N a Q t h = True := by simp [qfv]
theorem z0c {a b : ACode} : qiv (some (.bool true)) E N a b Q t h = wpA E N a Q t h := by simp [qiv, qfv]
theorem z0d {a b : ACode} : qiv (some (.bool false)) E N a b Q t h = wpA E N b Q t h := by simp [qiv, qfv]
theorem z0e {b' : Bool} {a b : ACode} : qiv (some (.bool b')) E N a b Q t h = (qfv (b' = true) E N a Q t h ∧ qfv (b' = false) E N b Q t h) := rfl
theorem z0f {K : T → Heap → Prop} : qSeq K Q .normal t h = K t h := rfl
theorem z0g {K : T → Heap → Prop} {i : Nat} : qSeq K Q (.exit i) t h = Q (.exit i) t h := rfl
theorem z0h {K : T → Heap → Prop} : qSeq K Q .ret t h = Q .ret t h := rfl
theorem z0i {id : Nat} : qbf id Q .normal t h = Q .normal t h := rfl
theorem z0j {id : Nat} : qbf id Q .ret t h = Q .ret t h := rfl
theorem z0k {id : Nat} : qbf id Q (.exit id) t h = Q .normal t h := by simp [qbf]
theorem z0l {id i : Nat} (e : (i == id) = false) : qbf id Q (.exit i) t h = Q (.exit i) t h := by
  have : ¬ i = id := by simpa using e
  simp [qbf, this]
def retO (rs : List ARes) (t : T) (h : Heap) : Option Value := (retL rs t h).map retV
theorem z0m {rs : List ARes} {Q : Value → Heap → Prop} : qRet rs Q .normal t h = q0b (retO rs t h) Q h := by
  simp only [qRet, retO, q0b]; cases retL rs t h <;> rfl
theorem z0n {rs : List ARes} {Q : Value → Heap → Prop} : qRet rs Q .ret t h = q0b (retO rs t h) Q h := by
  simp only [qRet, retO, q0b]; cases retL rs t h <;> rfl
end
section
variable {E : Env} {ρ : Opd → Option Value} {h hb : Heap} {hist : List Heap} {K : Value → Heap → Prop} {t : T} {R : T → Heap → Prop}
def qj1 (c : Prop) (E : Env) (d : Option Nat) (op : AOp) (os : List AOper) (R : T → Heap → Prop) (t : T) (h : Heap) : Prop := c → step E (oev E.fid t) h op (qh3 E d os R t)
def qj2 (c : Prop) (E : Env) (d : Option Nat) (os : List AOper) (R : T → Heap → Prop) (t : T) (h : Heap) : Prop := c → q70 E os R (tput t d undef) h
def qej (x : Option Value) (want : Bool) (E : Env) (d : Option Nat) (op : AOp) (os : List AOper) (R : T → Heap → Prop) (t : T) (h : Heap) : Prop :=
  match x with
  | some (.bool b) => qj1 (b = want) E d op os R t h ∧ qj2 (¬ b = want) E d os R t h
  | some (.tuple _) => q70 E os R (tput t d undef) h
  | _ => False
theorem z0o {b want : Bool} {d : Option Nat} {op : AOp} {os : List AOper} : qej (some (.bool b)) want E d op os R t h = (qj1 (b = want) E d op os R t h ∧ qj2 (¬ b = want) E d os R t h) := rfl
theorem z0p {want : Bool} {d : Option Nat} {op : AOp} {os : List AOper} : qej (some undef) want E d op os R t h = q70 E os R (tput t d undef) h := rfl
theorem z0q {d : Option Nat} {op : AOp} {os : List AOper} : qj1 True E d op os R t h = step E (oev E.fid t) h op (qh3 E d os R t) := by simp [qj1]
theorem z0r {d : Option Nat} {op : AOp} {os : List AOper} : qj1 False E d op os R t h = True := by simp [qj1]
theorem z0s {d : Option Nat} {os : List AOper} : qj2 True E d os R t h = q70 E os R (tput t d undef) h := by simp [qj2]
theorem z0t {d : Option Nat} {os : List AOper} : qj2 False E d os R t h = True := by simp [qj2]
theorem z10 : q70 E [] R t h = R t h := rfl
theorem z11 {d : Option Nat} {op : AOp} {os : List AOper} : q70 E (⟨d, op, none⟩ :: os) R t h = step E (oev E.fid t) h op (qh3 E d os R t) := rfl
theorem z12 {d : Option Nat} {op : AOp} {g : Nat} {want : Bool} {os : List AOper} : q70 E (⟨d, op, some (g, want)⟩ :: os) R t h = qej (t g) want E d op os R t h := by
  simp only [q70, qej, qj1, qj2]
  cases t g with
  | none => rfl
  | some v =>
    cases v <;> try rfl
    rename_i b
    simp only
    by_cases e : b = want
    · simp only [e, if_true, not_true_eq_false, false_implies, and_true, true_implies]; rfl
    · simp only [e, if_false, not_false_eq_true, true_implies, false_implies, true_and]
theorem q1s {op : AOp} (hq : op.quiet = true) : step E ρ h op K = q0b (q00 E.fid ρ h op) K h := by
  have key : (match q00 E.fid ρ h op with | some v => K v h | none => False) = q0b (q00 E.fid ρ h op) K h := by
    unfold q0b
    cases q00 E.fid ρ h op <;> rfl
  rw [← key]
  cases op <;> simp [AOp.quiet] at hq <;> rfl
def AOp.isB : AOp → Bool
  | .bytesOf _ => true
  | _ => false
theorem qhk {op : AOp} (hq : op.isA = true) (hnb : op.isB = false) : step E ρ h op K = qad (z6m ρ op) K h := by
  have key : (match z6m ρ op with | some (blk, mk) => ∀ b, h b = none → K (mk b) (h.set b blk) | none => False) = qad (z6m ρ op) K h := by
    unfold qad
    cases z6m ρ op <;> rfl
  rw [← key]
  cases op <;> simp [AOp.isA] at hq <;> first | rfl | exact absurd hnb (by simp [AOp.isB])
def q4u (x : Option Value) (l : List Heap) (E : Env) (t : T) (op : AOp) (K : Value → Heap → Prop) (h : Heap) : Prop :=
  match x with | some v => (∀ g ∈ l, q00 E.fid (oev E.fid t) g op = some v) ∧ K v h | none => False
theorem z1f {v : Value} {l : List Heap} {op : AOp} : q4u (some v) l E t op K h = ((∀ g ∈ l, q00 E.fid (oev E.fid t) g op = some v) ∧ K v h) := rfl
theorem qhq {op : AOp} (hq : op.quiet = true) : op.isW = false ∧ op.isA = false ∧ op.isM = false := by
  cases op <;> simp [AOp.quiet] at hq <;> exact ⟨rfl, rfl, rfl⟩
theorem q1z {ix : Nat} {d : Option Nat} {op : AOp} {os : List DOper} (hq : op.quiet = true) (hS : op.isS = false := by rfl) : runD E (⟨ix, d, op, none, 0⟩ :: os) R t h hb hist = q0b (q00 E.fid (oev E.fid t) hb op) (q04 E d os R t hb hist) h := by
  obtain ⟨h1, h2, h3⟩ := qhq hq
  simp only [runD, oneD, goD, h1, h2, h3, hS, Bool.false_eq_true, if_false, List.take_zero, List.not_mem_nil, false_implies, implies_true, true_and]
  unfold q0b
  cases q00 E.fid (oev E.fid t) hb op <;> rfl
theorem q11 {ix : Nat} {d : Option Nat} {op : AOp} {back : Nat} {os : List DOper} (hq : op.quiet = true) (hS : op.isS = false := by rfl) : runD E (⟨ix, d, op, none, back + 1⟩ :: os) R t h hb hist =
    q4u (q00 E.fid (oev E.fid t) hb op) (hist.take (back + 1)) E t op (q04 E d os R t hb hist) h := by
  obtain ⟨h1, h2, h3⟩ := qhq hq
  simp only [runD, oneD, goD, h1, h2, h3, hS, Bool.false_eq_true, if_false]
  unfold q4u
  cases q00 E.fid (oev E.fid t) hb op <;> rfl
def orV (x y : Option Value) : Option Value := match x with | some v => some v | none => y
theorem z1g {v : Value} {y : Option Value} : orV (some v) y = some v := rfl
theorem z1h {y : Option Value} : orV none y = y := rfl
def qk8 (x y : Option Value) (l : List Heap) (E : Env) (t : T) (op : AOp) (K : Value → Heap → Prop) (h : Heap) : Prop :=
  match x with
  | some v => (∀ g ∈ l, q00 E.fid (oev E.fid t) g op = some v) ∧ K v h
  | none => q0b y K h
theorem z1i {v : Value} {y : Option Value} {l : List Heap} {op : AOp} {K : Value → Heap → Prop} : qk8 (some v) y l E t op K h = ((∀ g ∈ l, q00 E.fid (oev E.fid t) g op = some v) ∧ K v h) := rfl
theorem z1j {y : Option Value} {l : List Heap} {op : AOp} {K : Value → Heap → Prop} : qk8 none y l E t op K h = q0b y K h := rfl
theorem runD_S {x : Opd} {ix : Nat} {d : Option Nat} {os : List DOper} : runD E (⟨ix, d, .strOf x, none, 0⟩ :: os) R t h hb hist = q0b (orV (q00 E.fid (oev E.fid t) hb (.strOf x)) (q00 E.fid (oev E.fid t) h (.strOf x))) (q04 E d os R t hb hist) h := by
  simp only [runD, oneD, goD, AOp.isW, AOp.isA, AOp.isM, AOp.isS, Bool.false_eq_true, if_false, if_true, List.take_zero, List.not_mem_nil, false_implies, implies_true, true_and]
  unfold q0b orV
  cases q00 E.fid (oev E.fid t) hb (.strOf x) with
  | some v => rfl
  | none => cases q00 E.fid (oev E.fid t) h (.strOf x) <;> rfl
theorem runDb_S {x : Opd} {ix : Nat} {d : Option Nat} {os : List DOper} {back : Nat} : runD E (⟨ix, d, .strOf x, none, back + 1⟩ :: os) R t h hb hist =
    qk8 (q00 E.fid (oev E.fid t) hb (.strOf x)) (q00 E.fid (oev E.fid t) h (.strOf x)) (hist.take (back + 1)) E t (.strOf x) (q04 E d os R t hb hist) h := by
  simp only [runD, oneD, goD, AOp.isW, AOp.isA, AOp.isM, AOp.isS, Bool.false_eq_true, if_false, if_true]
  unfold qk8 q0b
  cases q00 E.fid (oev E.fid t) hb (.strOf x) with
  | some v => rfl
  | none => cases q00 E.fid (oev E.fid t) h (.strOf x) <;> rfl
theorem qho {ix : Nat} {d : Option Nat} {op : AOp} {back : Nat} {os : List DOper} (hw : op.isA = true) (hnb : op.isB = false) : runD E (⟨ix, d, op, none, back⟩ :: os) R t h hb hist = qad (z6m (oev E.fid t) op) (q04 E d os R t hb hist) h := by
  have : op.isW = false := by cases op <;> simp [AOp.isA] at hw <;> rfl
  have e : ∀ c, q7o c (oev E.fid t) op = z6m (oev E.fid t) op := by
    intro c; cases op <;> first | rfl | exact absurd hnb (by simp [AOp.isB])
  simp only [runD, oneD, goD, hw, this, if_true, Bool.false_eq_true, if_false, e, Nat.zero_le, true_implies]
  unfold qad
  cases z6m (oev E.fid t) op <;> simp <;> rfl
theorem qaf {ix : Nat} {d : Option Nat} {op : AOp} {back : Nat} {os : List DOper} (hw : op.isW = true) : runD E (⟨ix, d, op, none, back⟩ :: os) R t h hb hist = step E (oev E.fid t) h op (q9o E d os R t hb hist) := by
  simp only [runD, oneD, goD, hw, if_true]; rfl
theorem z13 : runD E [] R t h hb hist = R t h := rfl
def qj4 (c : Prop) (E : Env) (o : DOper) (os : List DOper) (R : T → Heap → Prop) (t : T) (h hb : Heap) (hist : List Heap) : Prop := c → runD E ({ o with guard := none } :: os) R t h hb hist
def qj3 (c : Prop) (E : Env) (d : Option Nat) (w : Bool) (os : List DOper) (R : T → Heap → Prop) (t : T) (h hb : Heap) (hist : List Heap) : Prop := c → runD E os R (tput t d undef) h hb (if w = true then hb :: hist else hist)
def qjd (x : Option Value) (want : Bool) (E : Env) (o : DOper) (os : List DOper) (R : T → Heap → Prop) (t : T) (h hb : Heap) (hist : List Heap) : Prop :=
  match x with
  | some (.bool b) => qj4 (b = want) E o os R t h hb hist ∧ qj3 (¬ b = want) E o.dst o.op.isW os R t h hb hist
  | some (.tuple _) => runD E os R (tput t o.dst undef) h hb (if o.op.isW = true then hb :: hist else hist)
  | _ => False
theorem z0u {b want : Bool} {o : DOper} {os : List DOper} : qjd (some (.bool b)) want E o os R t h hb hist = (qj4 (b = want) E o os R t h hb hist ∧ qj3 (¬ b = want) E o.dst o.op.isW os R t h hb hist) := rfl
theorem z0v {want : Bool} {o : DOper} {os : List DOper} : qjd (some undef) want E o os R t h hb hist = runD E os R (tput t o.dst undef) h hb (if o.op.isW = true then hb :: hist else hist) := rfl
theorem z0w {ix : Nat} {d : Option Nat} {op : AOp} {g : Option (Nat × Bool)} {back : Nat} {os : List DOper} : qj4 True E ⟨ix, d, op, g, back⟩ os R t h hb hist = runD E (⟨ix, d, op, none, back⟩ :: os) R t h hb hist := by simp [qj4]
theorem z0x {o : DOper} {os : List DOper} : qj4 False E o os R t h hb hist = True := by simp [qj4]
theorem z0y {d : Option Nat} {w : Bool} {os : List DOper} : qj3 True E d w os R t h hb hist = runD E os R (tput t d undef) h hb (if w = true then hb :: hist else hist) := by simp [qj3]
theorem z0z {d : Option Nat} {w : Bool} {os : List DOper} : qj3 False E d w os R t h hb hist = True := by simp [qj3]
theorem z14 {ix : Nat} {d : Option Nat} {op : AOp} {back g : Nat} {want : Bool} {os : List DOper} : runD E (⟨ix, d, op, some (g, want), back⟩ :: os) R t h hb hist = qjd (t g) want E ⟨ix, d, op, some (g, want), back⟩ os R t h hb hist := by
  simp only [runD, oneD, qjd, qj4, qj3]
  cases t g with
  | none => rfl
  | some v =>
    cases v <;> try rfl
    rename_i b
    simp only
    by_cases e : b = want
    · simp only [e, if_true, not_true_eq_false, false_implies, and_true, true_implies]; rfl
    · simp only [e, if_false, not_false_eq_true, true_implies, false_implies, true_and]; rfl
theorem z1x {x : Opd} : step E ρ h (.mv x) K = q0b (q00 E.fid ρ h (.mv x)) K h := q1s rfl
theorem z1y {x : Opd} {ix : Nat} {d : Option Nat} {os : List DOper} : runD E (⟨ix, d, .mv x, none, 0⟩ :: os) R t h hb hist = q0b (q00 E.fid (oev E.fid t) hb (.mv x)) (q04 E d os R t hb hist) h := q1z rfl
theorem z4e {x : Opd} {ix : Nat} {d : Option Nat} {os : List DOper} {back : Nat} : runD E (⟨ix, d, .mv x, none, back + 1⟩ :: os) R t h hb hist = q4u (q00 E.fid (oev E.fid t) hb (.mv x)) (hist.take (back + 1)) E t (.mv x) (q04 E d os R t hb hist) h := q11 rfl
theorem z1z {n : Nat} : step E ρ h (.num n) K = q0b (q00 E.fid ρ h (.num n)) K h := q1s rfl
theorem z20 {n : Nat} {ix : Nat} {d : Option Nat} {os : List DOper} : runD E (⟨ix, d, .num n, none, 0⟩ :: os) R t h hb hist = q0b (q00 E.fid (oev E.fid t) hb (.num n)) (q04 E d os R t hb hist) h := q1z rfl
theorem z4f {n : Nat} {ix : Nat} {d : Option Nat} {os : List DOper} {back : Nat} : runD E (⟨ix, d, .num n, none, back + 1⟩ :: os) R t h hb hist = q4u (q00 E.fid (oev E.fid t) hb (.num n)) (hist.take (back + 1)) E t (.num n) (q04 E d os R t hb hist) h := q11 rfl
theorem z21 {c a b : Opd} : step E ρ h (.pick c a b) K = q0b (q00 E.fid ρ h (.pick c a b)) K h := q1s rfl
theorem z22 {c a b : Opd} {ix : Nat} {d : Option Nat} {os : List DOper} : runD E (⟨ix, d, .pick c a b, none, 0⟩ :: os) R t h hb hist = q0b (q00 E.fid (oev E.fid t) hb (.pick c a b)) (q04 E d os R t hb hist) h := q1z rfl
theorem z4g {c a b : Opd} {ix : Nat} {d : Option Nat} {os : List DOper} {back : Nat} : runD E (⟨ix, d, .pick c a b, none, back + 1⟩ :: os) R t h hb hist = q4u (q00 E.fid (oev E.fid t) hb (.pick c a b)) (hist.take (back + 1)) E t (.pick c a b) (q04 E d os R t hb hist) h := q11 rfl
theorem z23 {k : Option Nat} {x : Opd} : step E ρ h (.load k x) K = q0b (q00 E.fid ρ h (.load k x)) K h := q1s rfl
theorem z24 {k : Option Nat} {x : Opd} {ix : Nat} {d : Option Nat} {os : List DOper} : runD E (⟨ix, d, .load k x, none, 0⟩ :: os) R t h hb hist = q0b (q00 E.fid (oev E.fid t) hb (.load k x)) (q04 E d os R t hb hist) h := q1z rfl
theorem z4h {k : Option Nat} {x : Opd} {ix : Nat} {d : Option Nat} {os : List DOper} {back : Nat} : runD E (⟨ix, d, .load k x, none, back + 1⟩ :: os) R t h hb hist = q4u (q00 E.fid (oev E.fid t) hb (.load k x)) (hist.take (back + 1)) E t (.load k x) (q04 E d os R t hb hist) h := q11 rfl
theorem z25 {x : Opd} : step E ρ h (.nilc x) K = q0b (q00 E.fid ρ h (.nilc x)) K h := q1s rfl
theorem z26 {x : Opd} {ix : Nat} {d : Option Nat} {os : List DOper} : runD E (⟨ix, d, .nilc x, none, 0⟩ :: os) R t h hb hist = q0b (q00 E.fid (oev E.fid t) hb (.nilc x)) (q04 E d os R t hb hist) h := q1z rfl
theorem z4i {x : Opd} {ix : Nat} {d : Option Nat} {os : List DOper} {back : Nat} : runD E (⟨ix, d, .nilc x, none, back + 1⟩ :: os) R t h hb hist = q4u (q00 E.fid (oev E.fid t) hb (.nilc x)) (hist.take (back + 1)) E t (.nilc x) (q04 E d os R t hb hist) h := q11 rfl
theorem z27 {bop : BinOp} {x y : Opd} : step E ρ h (.bin bop x y) K = q0b (q00 E.fid ρ h (.bin bop x y)) K h := q1s rfl
theorem z28 {bop : BinOp} {x y : Opd} {ix : Nat} {d : Option Nat} {os : List DOper} : runD E (⟨ix, d, .bin bop x y, none, 0⟩ :: os) R t h hb hist = q0b (q00 E.fid (oev E.fid t) hb (.bin bop x y)) (q04 E d os R t hb hist) h := q1z rfl
theorem z4j {bop : BinOp} {x y : Opd} {ix : Nat} {d : Option Nat} {os : List DOper} {back : Nat} : runD E (⟨ix, d, .bin bop x y, none, back + 1⟩ :: os) R t h hb hist = q4u (q00 E.fid (oev E.fid t) hb (.bin bop x y)) (hist.take (back + 1)) E t (.bin bop x y) (q04 E d os R t hb hist) h := q11 rfl
theorem z29 {k : EqK} {ne : Bool} {x y : Opd} : step E ρ h (.eqv k ne x y) K = q0b (q00 E.fid ρ h (.eqv k ne x y)) K h := q1s rfl
theorem z2a {k : EqK} {ne : Bool} {x y : Opd} {ix : Nat} {d : Option Nat} {os : List DOper} : runD E (⟨ix, d, .eqv k ne x y, none, 0⟩ :: os) R t h hb hist = q0b (q00 E.fid (oev E.fid t) hb (.eqv k ne x y)) (q04 E d os R t hb hist) h := q1z rfl
theorem z4k {k : EqK} {ne : Bool} {x y : Opd} {ix : Nat} {d : Option Nat} {os : List DOper} {back : Nat} : runD E (⟨ix, d, .eqv k ne x y, none, back + 1⟩ :: os) R t h hb hist = q4u (q00 E.fid (oev E.fid t) hb (.eqv k ne x y)) (hist.take (back + 1)) E t (.eqv k ne x y) (q04 E d os R t hb hist) h := q11 rfl
theorem z2b {ks : List (Option IntKind)} {ne : Bool} {x y : Opd} : step E ρ h (.eqa ks ne x y) K = q0b (q00 E.fid ρ h (.eqa ks ne x y)) K h := q1s rfl
theorem z2c {ks : List (Option IntKind)} {ne : Bool} {x y : Opd} {ix : Nat} {d : Option Nat} {os : List DOper} : runD E (⟨ix, d, .eqa ks ne x y, none, 0⟩ :: os) R t h hb hist = q0b (q00 E.fid (oev E.fid t) hb (.eqa ks ne x y)) (q04 E d os R t hb hist) h := q1z rfl
theorem z4l {ks : List (Option IntKind)} {ne : Bool} {x y : Opd} {ix : Nat} {d : Option Nat} {os : List DOper} {back : Nat} : runD E (⟨ix, d, .eqa ks ne x y, none, back + 1⟩ :: os) R t h hb hist = q4u (q00 E.fid (oev E.fid t) hb (.eqa ks ne x y)) (hist.take (back + 1)) E t (.eqa ks ne x y) (q04 E d os R t hb hist) h := q11 rfl
theorem z2d {uop : UnOp} {x : Opd} : step E ρ h (.un uop x) K = q0b (q00 E.fid ρ h (.un uop x)) K h := q1s rfl
theorem z2e {uop : UnOp} {x : Opd} {ix : Nat} {d : Option Nat} {os : List DOper} : runD E (⟨ix, d, .un uop x, none, 0⟩ :: os) R t h hb hist = q0b (q00 E.fid (oev E.fid t) hb (.un uop x)) (q04 E d os R t hb hist) h := q1z rfl
theorem z4m {uop : UnOp} {x : Opd} {ix : Nat} {d : Option Nat} {os : List DOper} {back : Nat} : runD E (⟨ix, d, .un uop x, none, back + 1⟩ :: os) R t h hb hist = q4u (q00 E.fid (oev E.fid t) hb (.un uop x)) (hist.take (back + 1)) E t (.un uop x) (q04 E d os R t hb hist) h := q11 rfl
theorem z2f {k : IntKind} {x : Opd} : step E ρ h (.conv k x) K = q0b (q00 E.fid ρ h (.conv k x)) K h := q1s rfl
theorem z2g {k : IntKind} {x : Opd} {ix : Nat} {d : Option Nat} {os : List DOper} : runD E (⟨ix, d, .conv k x, none, 0⟩ :: os) R t h hb hist = q0b (q00 E.fid (oev E.fid t) hb (.conv k x)) (q04 E d os R t hb hist) h := q1z rfl
theorem z4n {k : IntKind} {x : Opd} {ix : Nat} {d : Option Nat} {os : List DOper} {back : Nat} : runD E (⟨ix, d, .conv k x, none, back + 1⟩ :: os) R t h hb hist = q4u (q00 E.fid (oev E.fid t) hb (.conv k x)) (hist.take (back + 1)) E t (.conv k x) (q04 E d os R t hb hist) h := q11 rfl
theorem z2h {x : Opd} : step E ρ h (.strOf x) K = q0b (q00 E.fid ρ h (.strOf x)) K h := q1s rfl
theorem z2i {x : Opd} {ix : Nat} {d : Option Nat} {os : List DOper} : runD E (⟨ix, d, .strOf x, none, 0⟩ :: os) R t h hb hist = q0b (orV (q00 E.fid (oev E.fid t) hb (.strOf x)) (q00 E.fid (oev E.fid t) h (.strOf x))) (q04 E d os R t hb hist) h := runD_S
theorem z4o {x : Opd} {ix : Nat} {d : Option Nat} {os : List DOper} {back : Nat} : runD E (⟨ix, d, .strOf x, none, back + 1⟩ :: os) R t h hb hist = qk8 (q00 E.fid (oev E.fid t) hb (.strOf x)) (q00 E.fid (oev E.fid t) h (.strOf x)) (hist.take (back + 1)) E t (.strOf x) (q04 E d os R t hb hist) h := runDb_S
theorem z2j {x : Opd} : step E ρ h (.strId x) K = q0b (q00 E.fid ρ h (.strId x)) K h := q1s rfl
theorem z2k {x : Opd} {ix : Nat} {d : Option Nat} {os : List DOper} : runD E (⟨ix, d, .strId x, none, 0⟩ :: os) R t h hb hist = q0b (q00 E.fid (oev E.fid t) hb (.strId x)) (q04 E d os R t hb hist) h := q1z rfl
theorem z4p {x : Opd} {ix : Nat} {d : Option Nat} {os : List DOper} {back : Nat} : runD E (⟨ix, d, .strId x, none, back + 1⟩ :: os) R t h hb hist = q4u (q00 E.fid (oev E.fid t) hb (.strId x)) (hist.take (back + 1)) E t (.strId x) (q04 E d os R t hb hist) h := q11 rfl
theorem z2l {off : Nat} {x : Opd} : step E ρ h (.faddr off x) K = q0b (q00 E.fid ρ h (.faddr off x)) K h := q1s rfl
theorem z2m {off : Nat} {x : Opd} {ix : Nat} {d : Option Nat} {os : List DOper} : runD E (⟨ix, d, .faddr off x, none, 0⟩ :: os) R t h hb hist = q0b (q00 E.fid (oev E.fid t) hb (.faddr off x)) (q04 E d os R t hb hist) h := q1z rfl
theorem z4q {off : Nat} {x : Opd} {ix : Nat} {d : Option Nat} {os : List DOper} {back : Nat} : runD E (⟨ix, d, .faddr off x, none, back + 1⟩ :: os) R t h hb hist = q4u (q00 E.fid (oev E.fid t) hb (.faddr off x)) (hist.take (back + 1)) E t (.faddr off x) (q04 E d os R t hb hist) h := q11 rfl
theorem z2n {k : Option Nat} {off : Nat} {x : Opd} : step E ρ h (.field k off x) K = q0b (q00 E.fid ρ h (.field k off x)) K h := q1s rfl
theorem z2o {k : Option Nat} {off : Nat} {x : Opd} {ix : Nat} {d : Option Nat} {os : List DOper} : runD E (⟨ix, d, .field k off x, none, 0⟩ :: os) R t h hb hist = q0b (q00 E.fid (oev E.fid t) hb (.field k off x)) (q04 E d os R t hb hist) h := q1z rfl
theorem z4r {k : Option Nat} {off : Nat} {x : Opd} {ix : Nat} {d : Option Nat} {os : List DOper} {back : Nat} : runD E (⟨ix, d, .field k off x, none, back + 1⟩ :: os) R t h hb hist = q4u (q00 E.fid (oev E.fid t) hb (.field k off x)) (hist.take (back + 1)) E t (.field k off x) (q04 E d os R t hb hist) h := q11 rfl
theorem z2p {n size : Nat} {x i : Opd} : step E ρ h (.iaddrA n size x i) K = q0b (q00 E.fid ρ h (.iaddrA n size x i)) K h := q1s rfl
theorem z2q {n size : Nat} {x i : Opd} {ix : Nat} {d : Option Nat} {os : List DOper} : runD E (⟨ix, d, .iaddrA n size x i, none, 0⟩ :: os) R t h hb hist = q0b (q00 E.fid (oev E.fid t) hb (.iaddrA n size x i)) (q04 E d os R t hb hist) h := q1z rfl
theorem z4s {n size : Nat} {x i : Opd} {ix : Nat} {d : Option Nat} {os : List DOper} {back : Nat} : runD E (⟨ix, d, .iaddrA n size x i, none, back + 1⟩ :: os) R t h hb hist = q4u (q00 E.fid (oev E.fid t) hb (.iaddrA n size x i)) (hist.take (back + 1)) E t (.iaddrA n size x i) (q04 E d os R t hb hist) h := q11 rfl
theorem z2r {size : Nat} {x i : Opd} : step E ρ h (.iaddrS size x i) K = q0b (q00 E.fid ρ h (.iaddrS size x i)) K h := q1s rfl
theorem z2s {size : Nat} {x i : Opd} {ix : Nat} {d : Option Nat} {os : List DOper} : runD E (⟨ix, d, .iaddrS size x i, none, 0⟩ :: os) R t h hb hist = q0b (q00 E.fid (oev E.fid t) hb (.iaddrS size x i)) (q04 E d os R t hb hist) h := q1z rfl
theorem z4t {size : Nat} {x i : Opd} {ix : Nat} {d : Option Nat} {os : List DOper} {back : Nat} : runD E (⟨ix, d, .iaddrS size x i, none, back + 1⟩ :: os) R t h hb hist = q4u (q00 E.fid (oev E.fid t) hb (.iaddrS size x i)) (hist.take (back + 1)) E t (.iaddrS size x i) (q04 E d os R t hb hist) h := q11 rfl
theorem z2t {n size : Nat} {k : Option Nat} {x i : Opd} : step E ρ h (.idxA n size k x i) K = q0b (q00 E.fid ρ h (.idxA n size k x i)) K h := q1s rfl
theorem z2u {n size : Nat} {k : Option Nat} {x i : Opd} {ix : Nat} {d : Option Nat} {os : List DOper} : runD E (⟨ix, d, .idxA n size k x i, none, 0⟩ :: os) R t h hb hist = q0b (q00 E.fid (oev E.fid t) hb (.idxA n size k x i)) (q04 E d os R t hb hist) h := q1z rfl
theorem z4u {n size : Nat} {k : Option Nat} {x i : Opd} {ix : Nat} {d : Option Nat} {os : List DOper} {back : Nat} : runD E (⟨ix, d, .idxA n size k x i, none, back + 1⟩ :: os) R t h hb hist = q4u (q00 E.fid (oev E.fid t) hb (.idxA n size k x i)) (hist.take (back + 1)) E t (.idxA n size k x i) (q04 E d os R t hb hist) h := q11 rfl
theorem z2v {x i : Opd} : step E ρ h (.idxS x i) K = q0b (q00 E.fid ρ h (.idxS x i)) K h := q1s rfl
theorem z2w {x i : Opd} {ix : Nat} {d : Option Nat} {os : List DOper} : runD E (⟨ix, d, .idxS x i, none, 0⟩ :: os) R t h hb hist = q0b (q00 E.fid (oev E.fid t) hb (.idxS x i)) (q04 E d os R t hb hist) h := q1z rfl
theorem z4v {x i : Opd} {ix : Nat} {d : Option Nat} {os : List DOper} {back : Nat} : runD E (⟨ix, d, .idxS x i, none, back + 1⟩ :: os) R t h hb hist = q4u (q00 E.fid (oev E.fid t) hb (.idxS x i)) (hist.take (back + 1)) E t (.idxS x i) (q04 E d os R t hb hist) h := q11 rfl
theorem z2x {x : Opd} {i : Nat} : step E ρ h (.ext x i) K = q0b (q00 E.fid ρ h (.ext x i)) K h := q1s rfl
theorem z2y {x : Opd} {i : Nat} {ix : Nat} {d : Option Nat} {os : List DOper} : runD E (⟨ix, d, .ext x i, none, 0⟩ :: os) R t h hb hist = q0b (q00 E.fid (oev E.fid t) hb (.ext x i)) (q04 E d os R t hb hist) h := q1z rfl
theorem z4w {x : Opd} {i : Nat} {ix : Nat} {d : Option Nat} {os : List DOper} {back : Nat} : runD E (⟨ix, d, .ext x i, none, back + 1⟩ :: os) R t h hb hist = q4u (q00 E.fid (oev E.fid t) hb (.ext x i)) (hist.take (back + 1)) E t (.ext x i) (q04 E d os R t hb hist) h := q11 rfl
theorem z2z {x : Opd} : step E ρ h (.lenS x) K = q0b (q00 E.fid ρ h (.lenS x)) K h := q1s rfl
theorem z30 {x : Opd} {ix : Nat} {d : Option Nat} {os : List DOper} : runD E (⟨ix, d, .lenS x, none, 0⟩ :: os) R t h hb hist = q0b (q00 E.fid (oev E.fid t) hb (.lenS x)) (q04 E d os R t hb hist) h := q1z rfl
theorem z4x {x : Opd} {ix : Nat} {d : Option Nat} {os : List DOper} {back : Nat} : runD E (⟨ix, d, .lenS x, none, back + 1⟩ :: os) R t h hb hist = q4u (q00 E.fid (oev E.fid t) hb (.lenS x)) (hist.take (back + 1)) E t (.lenS x) (q04 E d os R t hb hist) h := q11 rfl
theorem z31 {x : Opd} : step E ρ h (.lenStr x) K = q0b (q00 E.fid ρ h (.lenStr x)) K h := q1s rfl
theorem z32 {x : Opd} {ix : Nat} {d : Option Nat} {os : List DOper} : runD E (⟨ix, d, .lenStr x, none, 0⟩ :: os) R t h hb hist = q0b (q00 E.fid (oev E.fid t) hb (.lenStr x)) (q04 E d os R t hb hist) h := q1z rfl
theorem z4y {x : Opd} {ix : Nat} {d : Option Nat} {os : List DOper} {back : Nat} : runD E (⟨ix, d, .lenStr x, none, back + 1⟩ :: os) R t h hb hist = q4u (q00 E.fid (oev E.fid t) hb (.lenStr x)) (hist.take (back + 1)) E t (.lenStr x) (q04 E d os R t hb hist) h := q11 rfl
theorem z33 {x : Opd} : step E ρ h (.capS x) K = q0b (q00 E.fid ρ h (.capS x)) K h := q1s rfl
theorem z34 {x : Opd} {ix : Nat} {d : Option Nat} {os : List DOper} : runD E (⟨ix, d, .capS x, none, 0⟩ :: os) R t h hb hist = q0b (q00 E.fid (oev E.fid t) hb (.capS x)) (q04 E d os R t hb hist) h := q1z rfl
theorem z4z {x : Opd} {ix : Nat} {d : Option Nat} {os : List DOper} {back : Nat} : runD E (⟨ix, d, .capS x, none, back + 1⟩ :: os) R t h hb hist = q4u (q00 E.fid (oev E.fid t) hb (.capS x)) (hist.take (back + 1)) E t (.capS x) (q04 E d os R t hb hist) h := q11 rfl
theorem z35 {x y : Opd} : step E ρ h (.mn x y) K = q0b (q00 E.fid ρ h (.mn x y)) K h := q1s rfl
theorem z36 {x y : Opd} {ix : Nat} {d : Option Nat} {os : List DOper} : runD E (⟨ix, d, .mn x y, none, 0⟩ :: os) R t h hb hist = q0b (q00 E.fid (oev E.fid t) hb (.mn x y)) (q04 E d os R t hb hist) h := q1z rfl
theorem z50 {x y : Opd} {ix : Nat} {d : Option Nat} {os : List DOper} {back : Nat} : runD E (⟨ix, d, .mn x y, none, back + 1⟩ :: os) R t h hb hist = q4u (q00 E.fid (oev E.fid t) hb (.mn x y)) (hist.take (back + 1)) E t (.mn x y) (q04 E d os R t hb hist) h := q11 rfl
theorem z37 {x y : Opd} : step E ρ h (.mx x y) K = q0b (q00 E.fid ρ h (.mx x y)) K h := q1s rfl
theorem z38 {x y : Opd} {ix : Nat} {d : Option Nat} {os : List DOper} : runD E (⟨ix, d, .mx x y, none, 0⟩ :: os) R t h hb hist = q0b (q00 E.fid (oev E.fid t) hb (.mx x y)) (q04 E d os R t hb hist) h := q1z rfl
theorem z51 {x y : Opd} {ix : Nat} {d : Option Nat} {os : List DOper} {back : Nat} : runD E (⟨ix, d, .mx x y, none, back + 1⟩ :: os) R t h hb hist = q4u (q00 E.fid (oev E.fid t) hb (.mx x y)) (hist.take (back + 1)) E t (.mx x y) (q04 E d os R t hb hist) h := q11 rfl
theorem z39 {x : Opd} {lo hi : Option Opd} : step E ρ h (.slStr x lo hi) K = q0b (q00 E.fid ρ h (.slStr x lo hi)) K h := q1s rfl
theorem z3a {x : Opd} {lo hi : Option Opd} {ix : Nat} {d : Option Nat} {os : List DOper} : runD E (⟨ix, d, .slStr x lo hi, none, 0⟩ :: os) R t h hb hist = q0b (q00 E.fid (oev E.fid t) hb (.slStr x lo hi)) (q04 E d os R t hb hist) h := q1z rfl
theorem z52 {x : Opd} {lo hi : Option Opd} {ix : Nat} {d : Option Nat} {os : List DOper} {back : Nat} : runD E (⟨ix, d, .slStr x lo hi, none, back + 1⟩ :: os) R t h hb hist = q4u (q00 E.fid (oev E.fid t) hb (.slStr x lo hi)) (hist.take (back + 1)) E t (.slStr x lo hi) (q04 E d os R t hb hist) h := q11 rfl
theorem z3b {size : Nat} {x : Opd} {lo hi m : Option Opd} : step E ρ h (.slSl size x lo hi m) K = q0b (q00 E.fid ρ h (.slSl size x lo hi m)) K h := q1s rfl
theorem z3c {size : Nat} {x : Opd} {lo hi m : Option Opd} {ix : Nat} {d : Option Nat} {os : List DOper} : runD E (⟨ix, d, .slSl size x lo hi m, none, 0⟩ :: os) R t h hb hist = q0b (q00 E.fid (oev E.fid t) hb (.slSl size x lo hi m)) (q04 E d os R t hb hist) h := q1z rfl
theorem z53 {size : Nat} {x : Opd} {lo hi m : Option Opd} {ix : Nat} {d : Option Nat} {os : List DOper} {back : Nat} : runD E (⟨ix, d, .slSl size x lo hi m, none, back + 1⟩ :: os) R t h hb hist = q4u (q00 E.fid (oev E.fid t) hb (.slSl size x lo hi m)) (hist.take (back + 1)) E t (.slSl size x lo hi m) (q04 E d os R t hb hist) h := q11 rfl
theorem z3d {n size : Nat} {x : Opd} {lo hi m : Option Opd} : step E ρ h (.slArr n size x lo hi m) K = q0b (q00 E.fid ρ h (.slArr n size x lo hi m)) K h := q1s rfl
theorem z3e {n size : Nat} {x : Opd} {lo hi m : Option Opd} {ix : Nat} {d : Option Nat} {os : List DOper} : runD E (⟨ix, d, .slArr n size x lo hi m, none, 0⟩ :: os) R t h hb hist = q0b (q00 E.fid (oev E.fid t) hb (.slArr n size x lo hi m)) (q04 E d os R t hb hist) h := q1z rfl
theorem z54 {n size : Nat} {x : Opd} {lo hi m : Option Opd} {ix : Nat} {d : Option Nat} {os : List DOper} {back : Nat} : runD E (⟨ix, d, .slArr n size x lo hi m, none, back + 1⟩ :: os) R t h hb hist = q4u (q00 E.fid (oev E.fid t) hb (.slArr n size x lo hi m)) (hist.take (back + 1)) E t (.slArr n size x lo hi m) (q04 E d os R t hb hist) h := q11 rfl
theorem z3f {n : Nat} {x : Opd} : step E ρ h (.arrOf n x) K = q0b (q00 E.fid ρ h (.arrOf n x)) K h := q1s rfl
theorem z3g {n : Nat} {x : Opd} {ix : Nat} {d : Option Nat} {os : List DOper} : runD E (⟨ix, d, .arrOf n x, none, 0⟩ :: os) R t h hb hist = q0b (q00 E.fid (oev E.fid t) hb (.arrOf n x)) (q04 E d os R t hb hist) h := q1z rfl
theorem z55 {n : Nat} {x : Opd} {ix : Nat} {d : Option Nat} {os : List DOper} {back : Nat} : runD E (⟨ix, d, .arrOf n x, none, back + 1⟩ :: os) R t h hb hist = q4u (q00 E.fid (oev E.fid t) hb (.arrOf n x)) (hist.take (back + 1)) E t (.arrOf n x) (q04 E d os R t hb hist) h := q11 rfl
theorem z3h {n : Nat} {first captured : List Opd} : step E ρ h (.fn n first captured) K = q0b (q00 E.fid ρ h (.fn n first captured)) K h := q1s rfl
theorem z3i {n : Nat} {first captured : List Opd} {ix : Nat} {d : Option Nat} {os : List DOper} : runD E (⟨ix, d, .fn n first captured, none, 0⟩ :: os) R t h hb hist = q0b (q00 E.fid (oev E.fid t) hb (.fn n first captured)) (q04 E d os R t hb hist) h := q1z rfl
theorem z56 {n : Nat} {first captured : List Opd} {ix : Nat} {d : Option Nat} {os : List DOper} {back : Nat} : runD E (⟨ix, d, .fn n first captured, none, back + 1⟩ :: os) R t h hb hist = q4u (q00 E.fid (oev E.fid t) hb (.fn n first captured)) (hist.take (back + 1)) E t (.fn n first captured) (q04 E d os R t hb hist) h := q11 rfl
theorem z3j {z : List Value} {parts : List (Nat × Nat × Opd)} : step E ρ h (.build z parts) K = q0b (q00 E.fid ρ h (.build z parts)) K h := q1s rfl
theorem z3k {z : List Value} {parts : List (Nat × Nat × Opd)} {ix : Nat} {d : Option Nat} {os : List DOper} : runD E (⟨ix, d, .build z parts, none, 0⟩ :: os) R t h hb hist = q0b (q00 E.fid (oev E.fid t) hb (.build z parts)) (q04 E d os R t hb hist) h := q1z rfl
theorem z57 {z : List Value} {parts : List (Nat × Nat × Opd)} {ix : Nat} {d : Option Nat} {os : List DOper} {back : Nat} : runD E (⟨ix, d, .build z parts, none, back + 1⟩ :: os) R t h hb hist = q4u (q00 E.fid (oev E.fid t) hb (.build z parts)) (hist.take (back + 1)) E t (.build z parts) (q04 E d os R t hb hist) h := q11 rfl
theorem z3l {p : Prim} {xs : List Opd} : step E ρ h (.prim p xs) K = q0b (q00 E.fid ρ h (.prim p xs)) K h := q1s rfl
theorem z3m {p : Prim} {xs : List Opd} {ix : Nat} {d : Option Nat} {os : List DOper} : runD E (⟨ix, d, .prim p xs, none, 0⟩ :: os) R t h hb hist = q0b (q00 E.fid (oev E.fid t) hb (.prim p xs)) (q04 E d os R t hb hist) h := q1z rfl
theorem z58 {p : Prim} {xs : List Opd} {ix : Nat} {d : Option Nat} {os : List DOper} {back : Nat} : runD E (⟨ix, d, .prim p xs, none, back + 1⟩ :: os) R t h hb hist = q4u (q00 E.fid (oev E.fid t) hb (.prim p xs)) (hist.take (back + 1)) E t (.prim p xs) (q04 E d os R t hb hist) h := q11 rfl
theorem z3n {kt : KeyT} {z : Value} {ok : Bool} {m k : Opd} : step E ρ h (.lookup kt z ok m k) K = q0b (q00 E.fid ρ h (.lookup kt z ok m k)) K h := q1s rfl
theorem z3o {kt : KeyT} {z : Value} {ok : Bool} {m k : Opd} {ix : Nat} {d : Option Nat} {os : List DOper} : runD E (⟨ix, d, .lookup kt z ok m k, none, 0⟩ :: os) R t h hb hist = q0b (q00 E.fid (oev E.fid t) hb (.lookup kt z ok m k)) (q04 E d os R t hb hist) h := q1z rfl
theorem z59 {kt : KeyT} {z : Value} {ok : Bool} {m k : Opd} {ix : Nat} {d : Option Nat} {os : List DOper} {back : Nat} : runD E (⟨ix, d, .lookup kt z ok m k, none, back + 1⟩ :: os) R t h hb hist = q4u (q00 E.fid (oev E.fid t) hb (.lookup kt z ok m k)) (hist.take (back + 1)) E t (.lookup kt z ok m k) (q04 E d os R t hb hist) h := q11 rfl
theorem z3p {m : Opd} : step E ρ h (.lenM m) K = q0b (q00 E.fid ρ h (.lenM m)) K h := q1s rfl
theorem z3q {m : Opd} {ix : Nat} {d : Option Nat} {os : List DOper} : runD E (⟨ix, d, .lenM m, none, 0⟩ :: os) R t h hb hist = q0b (q00 E.fid (oev E.fid t) hb (.lenM m)) (q04 E d os R t hb hist) h := q1z rfl
theorem z5a {m : Opd} {ix : Nat} {d : Option Nat} {os : List DOper} {back : Nat} : runD E (⟨ix, d, .lenM m, none, back + 1⟩ :: os) R t h hb hist = q4u (q00 E.fid (oev E.fid t) hb (.lenM m)) (hist.take (back + 1)) E t (.lenM m) (q04 E d os R t hb hist) h := q11 rfl
theorem z3r {z : List Value} : step E ρ h (.alloc z) K = qad (z6m ρ (.alloc z)) K h := qhk rfl rfl
theorem z3s {z : List Value} {ix back : Nat} {d : Option Nat} {os : List DOper} : runD E (⟨ix, d, .alloc z, none, back⟩ :: os) R t h hb hist = qad (z6m (oev E.fid t) (.alloc z)) (q04 E d os R t hb hist) h := qho rfl rfl
theorem z3t {x : Opd} : step E ρ h (.box x) K = qad (z6m ρ (.box x)) K h := qhk rfl rfl
theorem z3u {x : Opd} {ix back : Nat} {d : Option Nat} {os : List DOper} : runD E (⟨ix, d, .box x, none, back⟩ :: os) R t h hb hist = qad (z6m (oev E.fid t) (.box x)) (q04 E d os R t hb hist) h := qho rfl rfl
theorem z3v {n size : Nat} {z : List Value} {parts : List (Nat × Nat × Opd)} : step E ρ h (.bslice n size z parts) K = qad (z6m ρ (.bslice n size z parts)) K h := qhk rfl rfl
theorem z3w {n size : Nat} {z : List Value} {parts : List (Nat × Nat × Opd)} {ix back : Nat} {d : Option Nat} {os : List DOper} : runD E (⟨ix, d, .bslice n size z parts, none, back⟩ :: os) R t h hb hist = qad (z6m (oev E.fid t) (.bslice n size z parts)) (q04 E d os R t hb hist) h := qho rfl rfl
theorem z3x {bytes : Nat} {z : List Value} {l c : Opd} : step E ρ h (.mslice bytes z l c) K = qad (z6m ρ (.mslice bytes z l c)) K h := qhk rfl rfl
theorem z3y {bytes : Nat} {z : List Value} {l c : Opd} {ix back : Nat} {d : Option Nat} {os : List DOper} : runD E (⟨ix, d, .mslice bytes z l c, none, back⟩ :: os) R t h hb hist = qad (z6m (oev E.fid t) (.mslice bytes z l c)) (q04 E d os R t hb hist) h := qho rfl rfl
theorem z3z  : step E ρ h (.mmap ) K = qad (z6m ρ (.mmap )) K h := qhk rfl rfl
theorem z40  {ix back : Nat} {d : Option Nat} {os : List DOper} : runD E (⟨ix, d, .mmap , none, back⟩ :: os) R t h hb hist = qad (z6m (oev E.fid t) (.mmap )) (q04 E d os R t hb hist) h := qho rfl rfl
theorem z41 {size : Nat} {a x : Opd} {ix back : Nat} {d : Option Nat} {os : List DOper} : runD E (⟨ix, d, .store size a x, none, back⟩ :: os) R t h hb hist = step E (oev E.fid t) h (.store size a x) (q9o E d os R t hb hist) := qaf rfl
theorem z42 {n : Nat} {args : List Opd} {ix back : Nat} {d : Option Nat} {os : List DOper} : runD E (⟨ix, d, .call n args, none, back⟩ :: os) R t h hb hist = step E (oev E.fid t) h (.call n args) (q9o E d os R t hb hist) := qaf rfl
theorem z43 {f : Opd} {args : List Opd} {ix back : Nat} {d : Option Nat} {os : List DOper} : runD E (⟨ix, d, .callv f args, none, back⟩ :: os) R t h hb hist = step E (oev E.fid t) h (.callv f args) (q9o E d os R t hb hist) := qaf rfl
theorem z44 {size bytes : Nat} {s x : Opd} {ix back : Nat} {d : Option Nat} {os : List DOper} : runD E (⟨ix, d, .append size bytes s x, none, back⟩ :: os) R t h hb hist = step E (oev E.fid t) h (.append size bytes s x) (q9o E d os R t hb hist) := qaf rfl
theorem z45 {size bytes : Nat} {z : List Value} {s n : Opd} {ix back : Nat} {d : Option Nat} {os : List DOper} : runD E (⟨ix, d, .appendZ size bytes z s n, none, back⟩ :: os) R t h hb hist = step E (oev E.fid t) h (.appendZ size bytes z s n) (q9o E d os R t hb hist) := qaf rfl
theorem z46 {size : Nat} {dd s : Opd} {ix back : Nat} {d : Option Nat} {os : List DOper} : runD E (⟨ix, d, .copy size dd s, none, back⟩ :: os) R t h hb hist = step E (oev E.fid t) h (.copy size dd s) (q9o E d os R t hb hist) := qaf rfl
theorem z47 {kt : KeyT} {m k v : Opd} {ix back : Nat} {d : Option Nat} {os : List DOper} : runD E (⟨ix, d, .mupd kt m k v, none, back⟩ :: os) R t h hb hist = step E (oev E.fid t) h (.mupd kt m k v) (q9o E d os R t hb hist) := qaf rfl
theorem z48 {kt : KeyT} {m k : Opd} {ix back : Nat} {d : Option Nat} {os : List DOper} : runD E (⟨ix, d, .mdel kt m k, none, back⟩ :: os) R t h hb hist = step E (oev E.fid t) h (.mdel kt m k) (q9o E d os R t hb hist) := qaf rfl
def callO (E : Env) (n : Nat) (x : Option (List Value)) (h : Heap) (K : Value → Heap → Prop) : Prop := match x with | some vs => ACallN E n vs h K | none => False
theorem z1k {n : Nat} {vs : List Value} : callO E n (some vs) h K = ACallN E n vs h K := rfl
theorem z5b {n : Nat} {args : List Opd} : step E ρ h (.call n args) K = callO E n (allV ρ args) h K := by
  show q13 E ρ h K (.call n args) = _
  simp only [q13]; unfold callO; cases allV ρ args <;> rfl
def qji (E : Env) (h : Heap) (K : Value → Heap → Prop) (f : Value) (vs : List Value) : Prop :=
  match f with
  | .func (.func g) first cap => (∃ m, E.fid m = some g) ∧ ACalls E g (first.toList ++ vs ++ cap.toList) h K
  | _ => False
def qly (E : Env) (h : Heap) (K : Value → Heap → Prop) (f : Option Value) (x : Option (List Value)) : Prop := match f, x with | some f, some vs => qji E h K f vs | _, _ => False
theorem z1l {f : Value} {vs : List Value} : qly E h K (some f) (some vs) = qji E h K f vs := rfl
theorem z5c {f : Opd} {args : List Opd} : step E ρ h (.callv f args) K = qly E h K (ρ f) (allV ρ args) := by
  show q13 E ρ h K (.callv f args) = _
  simp only [q13]
  unfold qly qji
  cases ρ f with
  | none => rfl
  | some v => cases allV ρ args with
    | none => cases v <;> first | rfl | (rename_i fn _ _; cases fn <;> rfl)
    | some vs => cases v <;> first | rfl | (rename_i fn _ _; cases fn <;> rfl)
def q5x (h : Heap) (size : Nat) (p v : Value) : Option Heap :=
  match p with
  | .pointer (some a) => if v.cells.size = size ∧ v.cells.toList.all one = true then q7p h a v.cells.toList else none
  | _ => none
def qkk (h : Heap) (size : Nat) (p v : Option Value) : Option Heap := match p, v with | some p, some v => q5x h size p v | _, _ => none
theorem z1m {size : Nat} {p v : Value} : qkk h size (some p) (some v) = q5x h size p v := rfl
theorem z5d {size : Nat} {a x : Opd} : step E ρ h (.store size a x) K = qhd (qkk h size (ρ a) (ρ x)) undef K := by
  show q13 E ρ h K (.store size a x) = _
  simp only [q13]
  unfold qhd qkk
  cases ρ a with
  | none => rfl
  | some av => cases ρ x with
    | none => cases av <;> first | rfl | (rename_i q; cases q <;> rfl)
    | some xv =>
      cases av <;> try rfl
      rename_i q
      cases q with
      | none => rfl
      | some q =>
        simp only [q5x]
        by_cases hc : xv.cells.size = size ∧ xv.cells.toList.all one = true
        · rw [if_pos hc]
          have h2 : ∀ u ∈ xv.cells.toList, one u = true := List.all_eq_true.1 hc.2
          cases q7p h q xv.cells.toList with
          | none => simp
          | some h' => simp only [hc.1, true_and]; exact propext ⟨fun p => p.2, fun p => ⟨h2, p⟩⟩
        · rw [if_neg hc]
          refine propext ⟨fun p => hc ⟨p.1, List.all_eq_true.2 p.2.1⟩, fun p => p.elim⟩
def qfr (size bytes : Nat) (h : Heap) (s x : Value) (K : Value → Heap → Prop) : Prop :=
  match s with
  | .slice base n c => (match qhp h size x with | some (m, news) => q6z size bytes h base n c m news K | none => False)
  | _ => False
def qj0 (size bytes : Nat) (h : Heap) (s x : Option Value) (K : Value → Heap → Prop) : Prop := match s, x with | some s, some x => qfr size bytes h s x K | _, _ => False
theorem z1n {size bytes : Nat} {s x : Value} : qj0 size bytes h (some s) (some x) K = qfr size bytes h s x K := rfl
theorem z5e {size bytes : Nat} {s x : Opd} : step E ρ h (.append size bytes s x) K = qj0 size bytes h (ρ s) (ρ x) K := by
  show q13 E ρ h K (.append size bytes s x) = _
  simp only [q13]
  unfold qj0 qfr
  cases ρ s with
  | none => rfl
  | some v => cases ρ x with
    | none => cases v <;> rfl
    | some u => cases v <;> rfl
def qh9 (size bytes : Nat) (z : List Value) (h : Heap) (s x : Value) (K : Value → Heap → Prop) : Prop :=
  match s, x with
  | .slice base n c, .int _ m => 0 ≤ m ∧ m ≤ 9223372036854775807 ∧ m * bytes ≤ 281474976710656 ∧ q6z size bytes h base n c m.toNat (List.flatten (List.replicate m.toNat z)) K
  | _, _ => False
def qha (size bytes : Nat) (z : List Value) (h : Heap) (s x : Option Value) (K : Value → Heap → Prop) : Prop := match s, x with | some s, some x => qh9 size bytes z h s x K | _, _ => False
theorem z1o {size bytes : Nat} {z : List Value} {s x : Value} : qha size bytes z h (some s) (some x) K = qh9 size bytes z h s x K := rfl
theorem z5f {size bytes : Nat} {z : List Value} {s x : Opd} : step E ρ h (.appendZ size bytes z s x) K = qha size bytes z h (ρ s) (ρ x) K := by
  show q13 E ρ h K (.appendZ size bytes z s x) = _
  simp only [q13]
  unfold qha qh9
  cases ρ s with
  | none => rfl
  | some v => cases ρ x with
    | none => cases v <;> rfl
    | some u => cases v <;> cases u <;> rfl
def copyP (size : Nat) (h : Heap) (d s : Value) (K : Value → Heap → Prop) : Prop :=
  match d, s with
  | .slice base n _, .slice (some b) m _ =>
    (match q09 h b (min m n * size) with
    | some l =>
      (∀ u ∈ l, one u = true) ∧
      (match base with
      | none => K (.int .i64 (min m n : Nat)) h
      | some a => (match q7p h a l with | some h' => K (.int .i64 (min m n : Nat)) h' | none => False))
    | none => False)
  | .slice base n _, .slice none m _ => m = 0 ∧ K (.int .i64 0) h
  | .slice base n _, .string s =>
    (match base with
    | none => K (.int .i64 (min s.size n : Nat)) h
    | some a => size = 1 ∧ (match q7p h a ((s.data.toList.take (min s.size n)).map fun b => .int .u8 b.toNat) with | some h' => K (.int .i64 (min s.size n : Nat)) h' | none => False))
  | _, _ => False
def copyO (size : Nat) (h : Heap) (d s : Option Value) (K : Value → Heap → Prop) : Prop := match d, s with | some d, some s => copyP size h d s K | _, _ => False
theorem z1p {size : Nat} {d s : Value} : copyO size h (some d) (some s) K = copyP size h d s K := rfl
theorem z5g {size : Nat} {d s : Opd} : step E ρ h (.copy size d s) K = copyO size h (ρ d) (ρ s) K := by
  show q13 E ρ h K (.copy size d s) = _
  simp only [q13]
  unfold copyO copyP
  cases ρ d with
  | none => rfl
  | some v => cases ρ s with
    | none => cases v <;> rfl
    | some u =>
      cases v <;> cases u <;> try rfl
      rename_i base n c b m k
      cases b <;> rfl
def ql8 (h : Heap) (kt : KeyT) (m k v : Value) : Option Heap :=
  match m with
  | .map (some r) =>
    (match h r with
    | some (.obj (.map es c)) =>
      (match q96 kt k, q6d kt k es.toList 0 with
      | some _, some (some (i, _)) => some (h.set r (.obj (.map (es.modify i fun e => { e with key := k, val := v }) c)))
      | some _, some none => some (h.set r (.obj (.map (es.push { key := k, val := v, born := c }) (c + 1))))
      | _, _ => none)
    | _ => none)
  | _ => none
def mupdO (h : Heap) (kt : KeyT) (m k v : Option Value) : Option Heap := match m, k, v with | some m, some k, some v => ql8 h kt m k v | _, _, _ => none
theorem z1q {kt : KeyT} {m k v : Value} : mupdO h kt (some m) (some k) (some v) = ql8 h kt m k v := rfl
theorem z5h {kt : KeyT} {m k v : Opd} : step E ρ h (.mupd kt m k v) K = qhd (mupdO h kt (ρ m) (ρ k) (ρ v)) undef K := by
  show q13 E ρ h K (.mupd kt m k v) = _
  simp only [q13]
  unfold qhd mupdO
  cases ρ m with
  | none => rfl
  | some mv => cases ρ k with
    | none => cases mv <;> first | rfl | (rename_i r; cases r <;> rfl)
    | some kv => cases ρ v with
      | none => cases mv <;> first | rfl | (rename_i r; cases r <;> rfl)
      | some vv =>
        cases mv <;> try rfl
        rename_i r
        cases r with
        | none => rfl
        | some r =>
          simp only [ql8]
          cases h r with
          | none => rfl
          | some x =>
            cases x with
            | own => rfl
            | ro => rfl
            | obj o =>
              cases o <;> try rfl
              rename_i es c
              simp only
              cases q96 kt kv with
              | none => rfl
              | some u => cases q6d kt kv es.toList 0 with
                | none => rfl
                | some q => cases q <;> rfl
def mdelV (h : Heap) (kt : KeyT) (m k : Value) : Option Heap :=
  match m with
  | .map (some r) =>
    (match h r with
    | some (.obj (.map es c)) =>
      (match q96 kt k, q6d kt k es.toList 0 with
      | some _, some (some (i, _)) => some (h.set r (.obj (.map (es.eraseIdxIfInBounds i) c)))
      | some _, some none => some (h.set r (.obj (.map es c)))
      | _, _ => none)
    | _ => none)
  | _ => none
def mdelO (h : Heap) (kt : KeyT) (m k : Option Value) : Option Heap := match m, k with | some m, some k => mdelV h kt m k | _, _ => none
theorem z1r {kt : KeyT} {m k : Value} : mdelO h kt (some m) (some k) = mdelV h kt m k := rfl
theorem z5i {kt : KeyT} {m k : Opd} : step E ρ h (.mdel kt m k) K = qhd (mdelO h kt (ρ m) (ρ k)) (.tuple #[]) K := by
  show q13 E ρ h K (.mdel kt m k) = _
  simp only [q13]
  unfold qhd mdelO
  cases ρ m with
  | none => rfl
  | some mv => cases ρ k with
    | none => cases mv <;> first | rfl | (rename_i r; cases r <;> rfl)
    | some kv =>
        cases mv <;> try rfl
        rename_i r
        cases r with
        | none => rfl
        | some r =>
          simp only [mdelV]
          cases h r with
          | none => rfl
          | some x =>
            cases x with
            | own => rfl
            | ro => rfl
            | obj o =>
              cases o <;> try rfl
              rename_i es c
              simp only
              cases q96 kt kv with
              | none => rfl
              | some u => cases q6d kt kv es.toList 0 with
                | none => rfl
                | some q => cases q <;> rfl
def qem (h : Heap) (x : Value) (K : Value → Heap → Prop) : Prop :=
  match x with
  | .string s => ∀ b c', h b = none → s.size ≤ c' → K (.slice (some ⟨b, 0, none⟩) s.size c') (h.set b (.own 0 (s.data.toList.map fun b => .int .u8 b.toNat) c'))
  | _ => False
def qcn (h : Heap) (x : Option Value) (K : Value → Heap → Prop) : Prop := match x with | some x => qem h x K | none => False
theorem z1s {x : Value} : qcn h (some x) K = qem h x K := rfl
theorem z5j {x : Opd} : step E ρ h (.bytesOf x) K = qcn h (ρ x) K := by
  show q13 E ρ h K (.bytesOf x) = _
  simp only [q13]
  unfold qcn qem
  cases ρ x with
  | none => rfl
  | some v => cases v <;> rfl
theorem z49 {x : Opd} {ix back : Nat} {d : Option Nat} {os : List DOper} : runD E (⟨ix, d, .bytesOf x, none, back⟩ :: os) R t h hb hist = qcn h (oev E.fid t x) (q04 E d os R t hb hist) := by
  simp only [runD, oneD, goD, AOp.isA, AOp.isW, if_true, Bool.false_eq_true, if_false, q7o]
  unfold qcn qem q04
  cases oev E.fid t x with
  | none => simp
  | some v =>
    cases v <;> try (simp; done)
    rename_i s
    simp only
    apply propext
    constructor
    · intro p b c' hb' hle
      have := p (c' - s.size) b hb'
      rw [show s.size + (c' - s.size) = c' from by omega] at this
      exact this (Nat.zero_le _)
    · intro p c b hb' _
      exact p b _ hb' (by omega)
def qkq (h : Heap) (x : Value) (K : Value → Heap → Prop) : Prop :=
  match x with
  | .map none => ∀ b, h b = none → K (.pointer (some ⟨b, 0, none⟩)) (h.set b (.obj (.mapIter none 0 #[] 0)))
  | .map (some m) => (match q8n h m with | some (es, c) => ∀ b, h b = none → K (.pointer (some ⟨b, 0, none⟩)) (h.set b (.obj (.mapIter (some m) c #[] c))) | none => False)
  | _ => False
def qkr (h : Heap) (x : Option Value) (K : Value → Heap → Prop) : Prop := match x with | some x => qkq h x K | none => False
theorem z1u {x : Value} : qkr h (some x) K = qkq h x K := rfl
theorem z5l {x : Opd} : step E ρ h (.rangeM x) K = qkr h (ρ x) K := by
  show q13 E ρ h K (.rangeM x) = _
  simp only [q13]
  unfold qkr qkq
  cases ρ x with
  | none => rfl
  | some v =>
    cases v <;> try rfl
    rename_i m
    cases m <;> rfl
def nextP (h : Heap) (x : Value) (K : Value → Heap → Prop) : Prop :=
  match x with
  | .pointer (some ⟨r, 0, none⟩) =>
    (match h r with
    | some (.obj (.mapIter none _ _ _)) => K (.tuple #[.bool false]) h
    | some (.obj (.mapIter (some m) since seen c0)) =>
      (match q8n h m with
      | some (es, clock) => (∀ e ∈ es.toList, e.born < since) ∧ since ≤ c0 ∧ ((leftOf es seen).size = 0 → K (.tuple #[.bool false]) h) ∧ ∀ e ∈ (leftOf es seen).toList, K (.tuple #[.bool true, e.key, e.val]) (h.set r (.obj (.mapIter (some m) since (seen.push e.born) clock)))
      | none => False)
    | _ => False)
  | _ => False
def nextO (h : Heap) (x : Option Value) (K : Value → Heap → Prop) : Prop := match x with | some x => nextP h x K | none => False
theorem z1v {x : Value} : nextO h (some x) K = nextP h x K := rfl
theorem z5m {x : Opd} : step E ρ h (.nextM x) K = nextO h (ρ x) K := by
  show q13 E ρ h K (.nextM x) = _
  simp only [q13]
  unfold nextO
  cases ρ x with
  | none => rfl
  | some v =>
    unfold nextP
    cases v <;> try rfl
    rename_i a
    cases a with
    | none => rfl
    | some a =>
      obtain ⟨r, o, sp⟩ := a
      cases o with
      | succ o => rfl
      | zero => cases sp <;> rfl
def qln (h : Heap) (x : Value) : Option Value :=
  match x with
  | .pointer (some ⟨r, 0, none⟩) =>
    (match h r with
    | some (.obj (.mapIter (some m) _ seen c0)) =>
      (match q8n h m with
      | some (es, clock) => (match seen.back? with | some stamp => (match es.find? (fun e => e.born == stamp) with | some e => if clock = c0 then some (.tuple #[e.key, e.val]) else none | none => none) | none => none)
      | none => none)
    | _ => none)
  | _ => none
def qlo (h : Heap) (x : Option Value) : Option Value := match x with | some x => qln h x | none => none
theorem z1w {x : Value} : qlo h (some x) = qln h x := rfl
theorem z5n {x : Opd} : step E ρ h (.entryM x) K = q0b (qlo h (ρ x)) K h := by
  show q13 E ρ h K (.entryM x) = _
  simp only [q13]
  unfold q0b qlo
  cases ρ x with
  | none => rfl
  | some v =>
    unfold qln
    cases v <;> try rfl
    rename_i a
    cases a with
    | none => rfl
    | some a =>
      obtain ⟨r, o, sp⟩ := a
      cases o with
      | succ o => rfl
      | zero =>
        cases sp with
        | some sp => rfl
        | none =>
          simp only
          cases hr : h r with
          | none => rfl
          | some bl =>
            cases bl <;> try rfl
            rename_i ob
            cases ob <;> try rfl
            rename_i m since seen c0
            cases m with
            | none => rfl
            | some m =>
              simp only
              cases q8n h m with
              | none => rfl
              | some q =>
                obtain ⟨es, clock⟩ := q
                simp only
                cases seen.back? with
                | none => rfl
                | some stamp =>
                  simp only
                  cases es.find? (fun e => e.born == stamp) with
                  | none => rfl
                  | some en =>
                    simp only
                    by_cases q : clock = c0
                    · simp [q]
                    · simp [q]
theorem z4b {x : Opd} {ix back : Nat} {d : Option Nat} {os : List DOper} : runD E (⟨ix, d, .rangeM x, none, back⟩ :: os) R t h hb hist = step E (oev E.fid t) h (.rangeM x) (q9o E d os R t hb hist) := qaf rfl
theorem z4c {x : Opd} {ix back : Nat} {d : Option Nat} {os : List DOper} : runD E (⟨ix, d, .nextM x, none, back⟩ :: os) R t h hb hist = step E (oev E.fid t) h (.nextM x) (q9o E d os R t hb hist) := qaf rfl
theorem z4d {x : Opd} {ix back : Nat} {d : Option Nat} {os : List DOper} : runD E (⟨ix, d, .entryM x, none, back⟩ :: os) R t h hb hist = step E (oev E.fid t) h (.entryM x) (q9o E d os R t hb hist) := qaf rfl
def qla (h : Heap) (x : Option Value) : Option Value := match x with | some x => ql9 h x | none => none
theorem z1t {x : Value} : qla h (some x) = ql9 h x := rfl
theorem z5k {x : Opd} : step E ρ h (.mark x) K = q0b (qla h (ρ x)) K h := by
  show q13 E ρ h K (.mark x) = _
  simp only [q13]
  unfold q0b qla ql9
  cases ρ x with
  | none => rfl
  | some v =>
    cases v <;> try rfl
    rename_i a n c
    cases a with
    | none => rfl
    | some a =>
      simp only
      cases h a.block with
      | none => rfl
      | some y => cases y <;> rfl
theorem z4a {x : Opd} {ix back : Nat} {d : Option Nat} {os : List DOper} : runD E (⟨ix, d, .mark x, none, back⟩ :: os) R t h hb hist = q0b (qla h (oev E.fid t x)) (q04 E d os R t hb hist) h := by
  simp only [runD, oneD, goD, AOp.isA, AOp.isW, AOp.isM, if_true, Bool.false_eq_true, if_false, qil]
  unfold q0b qla q04
  cases oev E.fid t x <;> rfl
theorem z6o {fid : Nat → Option FuncId} {i : Nat} : oev fid t (.t i) = t i := rfl
theorem z6p {fid : Nat → Option FuncId} {v : Value} : oev fid t (.c v) = some v := rfl
def z6y (k : Nat) : Option Value → List (Nat × Value) → List (Nat × Value)
  | some v, l => (k, v) :: l
  | none, l => l
def z6x : List Nat → T → List (Nat × Value)
  | [], _ => []
  | k :: ks, t => z6y k (t k) (z6x ks t)
theorem z6w (ks : List Nat) (t : T) : qhg ks t = tl (z6x ks t) := by
  rw [qkc]
  congr 1
  induction ks with
  | nil => rfl
  | cons k ks ih =>
    rw [List.filterMap_cons, z6x, ih]
    cases t k <;> rfl
end
theorem Heap.q02 (h : Heap) (b : Nat) (x : Blk) : h.set b x b = some x := by simp [Heap.set]
theorem Heap.q1e {h : Heap} {b c : Nat} {x : Blk} (e : c ≠ b) : h.set b x c = h c := by simp [Heap.set, e]
theorem Heap.qj6 (h : Heap) (b : Nat) (x y : Blk) : (h.set b x).set b y = h.set b y := by
  funext c; simp only [Heap.set]; split <;> rfl
theorem Heap.qhb {h : Heap} {b c : Nat} {x : Blk} : h.set b x c = none ↔ c ≠ b ∧ h c = none := by
  unfold Heap.set
  split
  · rename_i e; simp [e]
  · rename_i e; simp [e]
theorem qei {h h' : Heap} (x : h.le h') {a : Addr} {v : Value} (e : q1r h a = some v) : q1r h' a = some v := by
  unfold q1r at *
  split
  · rename_i hs; rw [hs] at e; cases e
  · rename_i hs
    rw [hs] at e
    simp only at e
    cases hb : h a.block with
    | none => rw [hb] at e; cases e
    | some y => rw [x _ _ hb]; rw [hb] at e; exact e
theorem qfa {h h' : Heap} (x : h.le h') {a : Addr} {n : Nat} {l : List Value} (e : q09 h a n = some l) : q09 h' a n = some l := by
  cases n with
  | zero => exact e
  | succ n =>
    simp only [q09] at *
    split
    · rename_i hs; rw [hs] at e; cases e
    · rename_i hs
      rw [hs] at e
      simp only at e
      cases hb : h a.block with
      | none => rw [hb] at e; cases e
      | some y => rw [x _ _ hb]; rw [hb] at e; exact e
theorem qda {h : Heap} {b o n st sz : Nat} {vs : List Value} (hb : h b = some (.own st vs sz)) (h1 : st ≤ o) (h2 : o - st + n ≤ vs.length) : q09 h ⟨b, o, none⟩ n = some ((vs.drop (o - st)).take n) := by
  cases n with
  | zero => simp [q09]
  | succ n => simp [q09, hb, h1, h2]
theorem qiq {h : Heap} {b n sz : Nat} {vs : List Value} (hb : h b = some (.own 0 vs sz)) (h2 : vs.length = n) : q09 h ⟨b, 0, none⟩ n = some vs := by
  rw [qda hb (Nat.le_refl _) (by omega)]
  simp [← h2]
theorem qd9 {h : Heap} {b o n : Nat} {l : List Value} (e : q09 h ⟨b, o, none⟩ n = some l) (i m : Nat) (hi : i + m ≤ n) : q09 h ⟨b, o + i, none⟩ m = some ((l.drop i).take m) := by
  cases m with
  | zero => simp [q09]
  | succ m =>
    cases n with
    | zero => omega
    | succ n =>
      simp only [q09] at *
      split at e
      · rename_i st vs sz hb
        split at e
        · rename_i hc
          simp only [Option.some.injEq] at e; subst e
          rw [if_pos (by omega)]
          congr 1
          rw [List.drop_take, List.take_take, List.drop_drop, show o + i - st = o - st + i from by omega]
          congr 1
          omega
        · cases e
      · rename_i c el fr hb
        split at e
        · rename_i hc
          simp only [Option.some.injEq] at e; subst e
          rw [if_pos (by omega)]
          congr 1
          rw [List.drop_take, List.take_take, List.drop_drop]
          congr 1
          omega
        · cases e
      · cases e
theorem qeh {h : Heap} {b o n : Nat} {l : List Value} (e : q09 h ⟨b, o, none⟩ n = some l) (i : Nat) (hi : i < n) : q1r h ⟨b, o + i, none⟩ = l[i]? := by
  have hl := q5i e
  have hlt : i < l.length := by omega
  have := qaj e (i := i) (v := l[i]) (by simp [hlt])
  rw [List.getElem?_eq_getElem hlt, ← this]
  congr 1
  unfold Addr.add
  split
  · rename_i hz; subst hz; rfl
  · rfl
def Sl (h : Heap) (size : Nat) (v : Value) (n : Nat) (cells : List Value) : Prop :=
  (v = .slice none 0 0 ∧ n = 0 ∧ cells = []) ∨ ∃ a c, v = .slice (some a) n c ∧ n ≤ c ∧ q09 h a (n * size) = some cells
theorem Sl.le {h h' : Heap} (x : h.le h') {size : Nat} {v : Value} {n : Nat} {cells : List Value} (s : Sl h size v n cells) : Sl h' size v n cells := by
  rcases s with s | ⟨a, c, h1, h2, h3⟩
  · exact .inl s
  · exact .inr ⟨a, c, h1, h2, qfa x h3⟩
theorem Sl.length {h : Heap} {size : Nat} {v : Value} {n : Nat} {cells : List Value} (s : Sl h size v n cells) : cells.length = n * size := by
  rcases s with ⟨_, rfl, rfl⟩ | ⟨a, c, h1, h2, h3⟩
  · simp
  · exact q5i h3
theorem qbw {h : Heap} {a : Addr} {n : Nat} {l : List Value} (e : q09 h a n = some l) (hn : 0 < n) : a = ⟨a.block, a.off, none⟩ := by
  obtain ⟨b, o, s⟩ := a
  cases n with
  | zero => omega
  | succ n =>
    cases s with
    | none => rfl
    | some s => simp [q09] at e
theorem Sl.ptr {h : Heap} {size : Nat} {v : Value} {n : Nat} {cells : List Value} (s : Sl h size v n cells) (hn : 0 < n) (hs : 0 < size) : ∃ b o c, v = .slice (some ⟨b, o, none⟩) n c ∧ n ≤ c ∧ q09 h ⟨b, o, none⟩ (n * size) = some cells := by
  rcases s with ⟨_, rfl, _⟩ | ⟨a, c, h1, h2, h3⟩
  · omega
  · have := qbw h3 (Nat.mul_pos hn hs)
    rw [this] at h1 h3
    exact ⟨_, _, c, h1, h2, h3⟩
def Ow (h0 h : Heap) (size : Nat) (v : Value) (n : Nat) (cells : List Value) : Prop :=
  (v = .slice none 0 0 ∧ n = 0 ∧ cells = []) ∨ ∃ (b o c sz st : Nat) (pre rest : List Value), v = .slice (some ⟨b, o, none⟩) n c ∧ n ≤ c ∧ h0 b = none ∧ h b = some (.own st (pre ++ cells ++ rest) sz) ∧ st + pre.length = o ∧ cells.length = n * size ∧ o + c * size ≤ sz
theorem Ow.sl {h0 h : Heap} {size : Nat} {v : Value} {n : Nat} {cells : List Value} (s : Ow h0 h size v n cells) : Sl h size v n cells := by
  rcases s with s | ⟨b, o, c, sz, st, pre, rest, h1, h2, h3, h4, h5, h6, h7⟩
  · exact .inl s
  · refine .inr ⟨⟨b, o, none⟩, c, h1, h2, ?_⟩
    rw [qda h4 (by omega) (by simp [← h6]; omega)]
    rw [show o - st = pre.length from by omega, List.append_assoc, List.drop_left, ← h6, List.take_left]
theorem Ow.le {h0 h h' : Heap} (x : h.le h') {size : Nat} {v : Value} {n : Nat} {cells : List Value} (s : Ow h0 h size v n cells) : Ow h0 h' size v n cells := by
  rcases s with s | ⟨b, o, c, sz, st, pre, rest, h1, h2, h3, h4, h5⟩
  · exact .inl s
  · exact .inr ⟨b, o, c, sz, st, pre, rest, h1, h2, h3, x _ _ h4, h5⟩
theorem Ow.since {h0 h1 h : Heap} (x : h0.le h1) {size : Nat} {v : Value} {n : Nat} {cells : List Value} (s : Ow h1 h size v n cells) : Ow h0 h size v n cells := by
  rcases s with s | ⟨b, o, c, sz, st, pre, rest, g1, g2, g3, g4⟩
  · exact .inl s
  · exact .inr ⟨b, o, c, sz, st, pre, rest, g1, g2, Heap.q1g x g3, g4⟩
theorem Ow.nil (h0 h : Heap) (size : Nat) : Ow h0 h size (.slice none 0 0) 0 [] := .inl ⟨rfl, rfl, rfl⟩
theorem qlz {size bytes : Nat} {h0 h : Heap} {base : Option Addr} {n c m : Nat} {cells news : List Value} {K : Value → Heap → Prop} (hle : h0.le h) (hsz : 0 < size) (s : Ow h0 h size (.slice base n c) n cells) (hlen : news.length = m * size) (h1 : ∀ u ∈ news, one u = true)
    (hb : (n + m) * bytes ≤ 140737488355328) (hm : n + m ≤ 9223372036854775807)
    (hk : ∀ v h', Ow h0 h' size v (n + m) (cells ++ news) → h0.le h' → K v h') : q6z size bytes h base n c m news K := by
  have hsl := s.sl
  unfold q6z
  rcases s with ⟨e, rfl, rfl⟩ | ⟨b, o, c', sz, st, pre, rest, e, g2, g3, g4, g5, g6, g7⟩
  · simp only [Value.slice.injEq] at e
    obtain ⟨rfl, _, rfl⟩ := e
    split
    · rename_i hfit
      have hm0 : m = 0 := by omega
      subst hm0
      have hn : news = [] := List.eq_nil_of_length_eq_zero (by simpa using hlen)
      subst hn
      exact hk _ _ (.inl ⟨rfl, rfl, rfl⟩) hle
    · refine ⟨hb, hm, ?_⟩
      simp only [qik, if_true]
      intro b c' hbn hge
      refine hk _ _ (.inr ⟨b, 0, c', c' * size, 0, [], [], rfl, hge, Heap.q1g hle hbn, by rw [Heap.q02]; simp, rfl, by simp [hlen], by omega⟩) (Heap.q0v hle (Heap.q1g hle hbn) _)
  · simp only [Value.slice.injEq] at e
    obtain ⟨rfl, _, rfl⟩ := e
    split
    · rename_i hfit
      simp only
      have hst : ∃ h' rest', q7p h ((⟨b, o, none⟩ : Addr).add (n * size)) news = some h' ∧ h' = h.set b (.own st (pre ++ (cells ++ news) ++ rest') sz) := by
        cases news with
        | nil =>
          refine ⟨h, rest, rfl, ?_⟩
          funext i
          unfold Heap.set
          split
          · rename_i e; subst e; rw [g4]; simp
          · rfl
        | cons u us =>
          have ha : ((⟨b, o, none⟩ : Addr).add (n * size)) = ⟨b, o + n * size, none⟩ := by
            unfold Addr.add; split
            · rename_i hz; simp [hz]
            · rfl
          refine ⟨_, rest.drop (u :: us).length, ?_, rfl⟩
          rw [ha]
          have hfit2 : (n + m) * size ≤ c * size := Nat.mul_le_mul_right _ hfit
          rw [Nat.add_mul] at hfit2
          simp only [q7p, g4]
          rw [if_pos ⟨by omega, by simp only [List.length_append]; omega, by rw [hlen]; omega⟩]
          have : o + n * size - st = (pre ++ cells).length := by rw [List.length_append]; omega
          rw [this]
          congr 3
          unfold qc4
          rw [List.take_left, ← List.drop_drop, List.drop_left]
          simp
      obtain ⟨h', rest', e1, rfl⟩ := hst
      rw [e1]
      refine ⟨h1, hk _ _ (.inr ⟨b, o, c, sz, st, pre, rest', rfl, hfit, g3, Heap.q02 _ _ _, g5, by simp [g6, hlen, Nat.add_mul], g7⟩) (Heap.q0v hle g3 _)⟩
    · refine ⟨hb, hm, ?_⟩
      have hx : q09 h ⟨b, o, none⟩ (n * size) = some cells := by
        rcases hsl with ⟨e, _⟩ | ⟨a, c, e, _, q⟩
        · cases e
        · simp only [Value.slice.injEq, Option.some.injEq] at e
          obtain ⟨rfl, _⟩ := e
          exact q
      have : qik h n (n * size) (some ⟨b, o, none⟩) = some cells := by
        simp only [qik]; exact hx
      rw [this]
      intro b' c' hbn hge
      exact hk _ _ (.inr ⟨b', 0, c', c' * size, 0, [], [], rfl, hge, Heap.q1g hle hbn, by rw [Heap.q02]; simp, rfl, by simp [g6, hlen, Nat.add_mul], by omega⟩) (Heap.q0v hle (Heap.q1g hle hbn) _)
theorem readX_sl {h : Heap} {size : Nat} {v : Value} {n : Nat} {cells : List Value} (s : Sl h size v n cells) : qhp h size v = some (n, cells) := by
  rcases s with ⟨rfl, rfl, rfl⟩ | ⟨a, c, rfl, h2, h3⟩
  · simp [qhp]
  · simp [qhp, h3]
end Go.Bb
namespace Go.Bb
set_option linter.unusedSimpArgs false
set_option linter.unusedVariables false
theorem Sl.shape {h : Heap} {size : Nat} {v : Value} {n : Nat} {cells : List Value} (s : Sl h size v n cells) : ∃ base c, v = .slice base n c := by
  rcases s with ⟨rfl, rfl, _⟩ | ⟨a, c, rfl, _⟩
  · exact ⟨_, _, rfl⟩
  · exact ⟨_, _, rfl⟩
theorem qli {α : Type} (f : α → List Value) (size : Nat) (hf : ∀ x, (f x).length = size) : ∀ (L : List α) (i : Nat) (x : α), L[i]? = some x → ((L.flatMap f).drop (i * size)).take size = f x
  | [], i, x, h => by simp at h
  | y :: L, 0, x, h => by
    simp at h; subst h
    simp only [List.flatMap_cons, Nat.zero_mul, List.drop_zero]
    rw [List.take_append_of_le_length (by rw [hf]; exact Nat.le_refl _), List.take_of_length_le (by rw [hf]; exact Nat.le_refl _)]
  | y :: L, i + 1, x, h => by
    simp at h
    rw [List.flatMap_cons, Nat.succ_mul, Nat.add_comm, ← List.drop_drop]
    have : (f y ++ L.flatMap f).drop size = L.flatMap f := by
      rw [← hf y, List.drop_left]
    rw [this]
    exact qli f size hf L i x h
theorem Sl.at {α : Type} {h : Heap} {size : Nat} {v : Value} {L : List α} {f : α → List Value} (hf : ∀ x, (f x).length = size) (s : Sl h size v L.length (L.flatMap f)) (i : Nat) (hi : i < L.length) (hs : 0 < size) :
    ∃ b o c, v = .slice (some ⟨b, o, none⟩) L.length c ∧ L.length ≤ c ∧ ∀ h', h.le h' → q09 h' ⟨b, o + i * size, none⟩ size = some (f L[i]) := by
  obtain ⟨b, o, c, h1, h2, h3⟩ := s.ptr (by omega) hs
  refine ⟨b, o, c, h1, h2, fun h' hle => ?_⟩
  have hm : (i + 1) * size ≤ L.length * size := Nat.mul_le_mul_right _ hi
  rw [Nat.succ_mul] at hm
  rw [qd9 (qfa hle h3) (i * size) size (by omega)]
  congr 1
  exact qli f size hf L i L[i] (by simp [hi])
def qdq (h : Heap) : Value → Option Value
  | .slice none _ _ => some (.string .empty)
  | .slice (some a) n _ => match q09 h a n with | some l => (qbk l).map fun bs => .string ⟨bs.toArray⟩ | none => none
  | _ => none
def qki (h : Heap) : Option Value → Option Value
  | some v => qdq h v
  | none => none
theorem z6l (h : Heap) (v : Value) : qki h (some v) = qdq h v := rfl
section
variable {fid : Nat → Option FuncId} {ρ : Opd → Option Value} {h : Heap}
theorem z5o (x : Opd) : q00 fid ρ h (.mv x) = (ρ x) := rfl
theorem z5p (n : Nat) : q00 fid ρ h (.num n) = (some (.int .i64 n)) := rfl
theorem z5q (c : Opd) (a : Opd) (b : Opd) : q00 fid ρ h (.pick c a b) = (match ρ c with | some (.bool q) => if q = true then ρ a else ρ b | _ => none) := rfl
theorem z5r (k : Option Nat) (x : Opd) : q00 fid ρ h (.load k x) = (match ρ x with
    | some (.pointer (some a)) => z6q h a k
    | _ => none) := rfl
theorem z5s (x : Opd) : q00 fid ρ h (.nilc x) = (match ρ x with | some (.pointer (some a)) => some (.pointer (some a)) | some (.func (.func f) a b) => some (.func (.func f) a b) | _ => none) := rfl
theorem z5t (op : BinOp) (x : Opd) (y : Opd) : q00 fid ρ h (.bin op x y) = (match ρ x, ρ y with | some a, some b => binV op a b | _, _ => none) := rfl
theorem z5u (k : EqK) (ne : Bool) (x : Opd) (y : Opd) : q00 fid ρ h (.eqv k ne x y) = (match ρ x, ρ y with | some a, some b => (eqV k a b).map fun q => .bool (if ne = true then !q else q) | _, _ => none) := rfl
theorem z5v (ks : List (Option IntKind)) (ne : Bool) (x : Opd) (y : Opd) : q00 fid ρ h (.eqa ks ne x y) = (match ρ x, ρ y with
    | some (.agg a), some (.agg b) => if (q05 ks a.toList && q05 ks b.toList) = true then some (.bool (if ne = true then !(q0k a.toList b.toList) else q0k a.toList b.toList)) else none
    | _, _ => none) := rfl
theorem z5w (op : UnOp) (x : Opd) : q00 fid ρ h (.un op x) = (match ρ x with | some a => unV op a | _ => none) := rfl
theorem z5x (k : IntKind) (x : Opd) : q00 fid ρ h (.conv k x) = (match ρ x with | some (.int _ n) => some (.int k (k.wrap n)) | _ => none) := rfl
theorem z5y (x : Opd) : q00 fid ρ h (.strOf x) = qki h (ρ x) := by
  simp only [q00, qki]
  cases ρ x with
  | none => rfl
  | some v => cases v <;> try rfl
              rename_i a n c; cases a <;> rfl
theorem z5z (x : Opd) : q00 fid ρ h (.strId x) = (match ρ x with | some (.string s) => some (.string s) | _ => none) := rfl
theorem z60 (off : Nat) (x : Opd) : q00 fid ρ h (.faddr off x) = (match ρ x with | some (.pointer (some a)) => if a.spot = none then some (.pointer (some ⟨a.block, a.off + off, none⟩)) else none | _ => none) := rfl
theorem z61 (k : Option Nat) (off : Nat) (x : Opd) : q00 fid ρ h (.field k off x) = (match ρ x with
    | some (.agg cs) => z6r cs.toList off k
    | _ => none) := rfl
theorem z62 (n : Nat) (size : Nat) (x : Opd) (i : Opd) : q00 fid ρ h (.iaddrA n size x i) = (match ρ x, ρ i with
    | some (.pointer (some a)), some (.int _ j) => if a.spot = none ∧ 0 ≤ j ∧ j < n then some (.pointer (some ⟨a.block, a.off + j.toNat * size, none⟩)) else none
    | _, _ => none) := rfl
theorem z63 (size : Nat) (x : Opd) (i : Opd) : q00 fid ρ h (.iaddrS size x i) = (match ρ x, ρ i with
    | some (.slice (some a) n _), some (.int _ j) => if a.spot = none ∧ 0 ≤ j ∧ j < n then some (.pointer (some ⟨a.block, a.off + j.toNat * size, none⟩)) else none
    | _, _ => none) := rfl
theorem z64 (n : Nat) (size : Nat) (k : Option Nat) (x : Opd) (i : Opd) : q00 fid ρ h (.idxA n size k x i) = (match ρ x, ρ i with
    | some (.agg cs), some (.int _ j) =>
      if 0 ≤ j ∧ j < n then z6r cs.toList (j.toNat * size) k else none
    | _, _ => none) := rfl
theorem z65 (x : Opd) (i : Opd) : q00 fid ρ h (.idxS x i) = (match ρ x, ρ i with
    | some (.string s), some (.int _ j) => if 0 ≤ j then (s.data.toList[j.toNat]?).map fun b => .int .u8 b.toNat else none
    | _, _ => none) := rfl
theorem z66 (x : Opd) (i : Nat) : q00 fid ρ h (.ext x i) = (match ρ x with | some (.tuple vs) => vs.toList[i]? | _ => none) := rfl
theorem z67 (x : Opd) : q00 fid ρ h (.lenS x) = (match ρ x with | some (.slice _ n _) => some (.int .i64 n) | _ => none) := rfl
theorem z68 (x : Opd) : q00 fid ρ h (.lenStr x) = (match ρ x with | some (.string s) => some (.int .i64 s.size) | _ => none) := rfl
theorem z69 (x : Opd) : q00 fid ρ h (.capS x) = (match ρ x with | some (.slice _ _ n) => some (.int .i64 n) | _ => none) := rfl
theorem z6a (x : Opd) (y : Opd) : q00 fid ρ h (.mn x y) = (match ρ x, ρ y with | some (.int k a), some (.int _ b) => some (.int k (if b < a then b else a)) | _, _ => none) := rfl
theorem z6b (x : Opd) (y : Opd) : q00 fid ρ h (.mx x y) = (match ρ x, ρ y with | some (.int k a), some (.int _ b) => some (.int k (if b > a then b else a)) | _, _ => none) := rfl
theorem z6c (x : Opd) (lo : Option Opd) (hi : Option Opd) : q00 fid ρ h (.slStr x lo hi) = (match ρ x with
    | some (.string s) => match bnds s.size s.size (oOpt ρ lo) (oOpt ρ hi) none with | some (l, h, _) => some (.string (s.extract l h)) | none => none
    | _ => none) := rfl
theorem z6d (size : Nat) (x : Opd) (lo : Option Opd) (hi : Option Opd) (m : Option Opd) : q00 fid ρ h (.slSl size x lo hi m) = (match ρ x with
    | some (.slice a len cap) =>
      match bnds len cap (oOpt ρ lo) (oOpt ρ hi) (oOpt ρ m) with
      | some (l, h, m') => some (.slice (if m' = l then a else a.map (·.add (l * size))) (h - l) (m' - l))
      | none => none
    | _ => none) := rfl
theorem z6e (n : Nat) (size : Nat) (x : Opd) (lo : Option Opd) (hi : Option Opd) (m : Option Opd) : q00 fid ρ h (.slArr n size x lo hi m) = (match ρ x with
    | some (.pointer (some a)) =>
      match bnds n n (oOpt ρ lo) (oOpt ρ hi) (oOpt ρ m) with
      | some (l, h, m') => some (.slice (some (if m' = l then a else a.add (l * size))) (h - l) (m' - l))
      | none => none
    | _ => none) := rfl
theorem z6f (n : Nat) (x : Opd) : q00 fid ρ h (.arrOf n x) = (match ρ x with | some (.slice a len _) => if len < n then none else some (.pointer a) | _ => none) := rfl
theorem z6g (n : Nat) (first : List Opd) (captured : List Opd) : q00 fid ρ h (.fn n first captured) = (match fid n, allV ρ first, allV ρ captured with
    | some f, some a, some b => some (.func (.func f) a.toArray b.toArray)
    | _, _, _ => none) := rfl
theorem z6h (z : List Value) (parts : List (Nat × Nat × Opd)) : q00 fid ρ h (.build z parts) = (match allP ρ parts with
    | some ps => (z6n z ps).map fun l => .agg l.toArray
    | none => none) := rfl
theorem z6i (p : Prim) (xs : List Opd) : q00 fid ρ h (.prim p xs) = (match allV ρ xs with | some vs => qks p vs | none => none) := rfl
theorem z6j (kt : KeyT) (z : Value) (ok : Bool) (m : Opd) (k : Opd) : q00 fid ρ h (.lookup kt z ok m k) = (match ρ m, ρ k with
    | some (.map none), some kv => (q96 kt kv).map fun _ => if ok = true then .tuple #[z, .bool false] else z
    | some (.map (some r)), some kv =>
      match q8n h r with
      | some (es, _) =>
        match q96 kt kv, q6d kt kv es.toList 0 with
        | some _, some (some (_, v)) => some (if ok = true then .tuple #[v, .bool true] else v)
        | some _, some none => some (if ok = true then .tuple #[z, .bool false] else z)
        | _, _ => none
      | none => none
    | _, _ => none) := rfl
theorem z6k (m : Opd) : q00 fid ρ h (.lenM m) = (match ρ m with
    | some (.map none) => some (.int .i64 0)
    | some (.map (some r)) => (q8n h r).map fun es => .int .i64 es.1.size
    | _ => none) := rfl
end
section
variable {h : Heap} {b c : Nat} {x : Blk} {vs us : List Value} {sz off n size : Nat} {v : Value} {k : IntKind} {z : Int}
theorem z70 (hl : off < vs.length) : q1r (h.set b (.own 0 vs sz)) ⟨b, off, none⟩ = some vs[off] := by
  simp [q1r, Heap.set, List.getElem?_eq_getElem hl]
theorem q4n (hb : h b = some (.own 0 vs sz)) (hl : off < vs.length) : q1r h ⟨b, off, none⟩ = some vs[off] := by
  simp [q1r, hb, List.getElem?_eq_getElem hl]
theorem z71 (h1 : vs.length = n) : q09 (h.set b (.own 0 vs sz)) ⟨b, 0, none⟩ n = some vs := qiq (Heap.q02 _ _ _) h1
theorem q7k (hb : h b = some (.own 0 vs sz)) (h1 : off + n ≤ vs.length) : q09 h ⟨b, off, none⟩ n = some ((vs.drop off).take n) := by
  rw [qda hb (Nat.zero_le _) (by simpa using h1)]; simp
theorem Heap.qjl (hb : h b = some x) : h.set b x = h := by
  funext c; simp only [Heap.set]; split
  · rename_i e; subst e; exact hb.symm
  · rfl
theorem qeu (h0 : 0 < size) (h1 : v.cells.toList = us) (h2 : us.length = size) (h3 : us.all one = true) (h4 : off ≤ vs.length) (h5 : off + size ≤ sz) : q5x (h.set b (.own 0 vs sz)) size (.pointer (some ⟨b, off, none⟩)) v = some (h.set b (.own 0 (qc4 vs off us) sz)) := by
  have e1 : v.cells.size = size := by rw [← Array.length_toList, h1, h2]
  unfold q5x
  simp only
  rw [if_pos ⟨e1, by rw [h1]; exact h3⟩]
  cases us with
  | nil => simp at h2; omega
  | cons u us =>
    rw [h1]
    simp only [q7p, Heap.q02]
    rw [if_pos ⟨Nat.zero_le _, by simpa using h4, by rw [h2]; exact h5⟩, Heap.qj6]
    simp
theorem z72 (h1 : one v = true) (h4 : off < vs.length) (h5 : vs.length ≤ sz) : q5x (h.set b (.own 0 vs sz)) 1 (.pointer (some ⟨b, off, none⟩)) v = some (h.set b (.own 0 (vs.set off v) sz)) := by
  have e : v.cells.toList = [v] := by cases v <;> first | rfl | (cases h1; done)
  rw [qeu (size := 1) (us := [v]) (by omega) e rfl (by simp [h1]) (by omega) (by omega)]
  congr 3
  unfold qc4
  rw [List.set_eq_take_append_cons_drop, if_pos h4]
  simp
theorem z73 (h0 : 0 < size) (h1 : us.length = size) (h2 : us.all one = true) (h4 : vs.length = size) (h5 : size ≤ sz) : q5x (h.set b (.own 0 vs sz)) size (.pointer (some ⟨b, 0, none⟩)) (.agg us.toArray) = some (h.set b (.own 0 us sz)) := by
  rw [qeu (us := us) h0 (by simp [Value.cells]) h1 h2 (by omega) (by omega)]
  congr 3
  unfold qc4
  simp [h1, h4]
theorem q9s (hb : h b = some (.own 0 vs sz)) (h1 : one v = true) (h4 : off < vs.length) (h5 : vs.length ≤ sz) : q5x h 1 (.pointer (some ⟨b, off, none⟩)) v = some (h.set b (.own 0 (vs.set off v) sz)) := by
  have := z72 (h := h) (b := b) (sz := sz) h1 h4 h5
  rwa [Heap.qjl hb] at this
theorem q8c (hb : h b = some (.own 0 vs sz)) (h0 : 0 < size) (h1 : us.length = size) (h2 : us.all one = true) (h4 : vs.length = size) (h5 : size ≤ sz) : q5x h size (.pointer (some ⟨b, 0, none⟩)) (.agg us.toArray) = some (h.set b (.own 0 us sz)) := by
  have := z73 (h := h) (b := b) (sz := sz) h0 h1 h2 h4 h5
  rwa [Heap.qjl hb] at this
theorem Heap.qie {h h' : Heap} (x : h.le h') {b : Nat} (hb : h' b = none) (y : Blk) : h.le (h'.set b y) := Heap.q0v x (Heap.q1g x hb) y
theorem z74 : one (.int k z) = true := rfl
theorem z75 {q : Bool} : one (.bool q) = true := rfl
theorem z76 {q : ByteArray} : one (.string q) = true := rfl
theorem z77 {q : Option Addr} : one (.pointer q) = true := rfl
theorem z78 {q : Option Addr} {n m : Nat} : one (.slice q n m) = true := rfl
theorem z79 {q : Option Nat} : one (.map q) = true := rfl
end
theorem qdk {size bytes n m : Nat} {h0 h : Heap} {v xv : Value} {cells news : List Value} {K : Value → Heap → Prop} (hle : h0.le h) (hsz : 0 < size) (s : Ow h0 h size v n cells) (x : Sl h size xv m news) (h1 : news.all one = true)
    (hb : (n + m) * bytes ≤ 140737488355328) (hm : n + m ≤ 9223372036854775807)
    (hk : ∀ v h', Ow h0 h' size v (n + m) (cells ++ news) → h0.le h' → K v h') : qfr size bytes h v xv K := by
  have hx := readX_sl x
  have hlen := x.length
  have h1' : ∀ u ∈ news, one u = true := fun u hu => List.all_eq_true.1 h1 u hu
  obtain ⟨base, c, rfl⟩ : ∃ base c, v = .slice base n c := by
    rcases s with ⟨rfl, rfl, _⟩ | ⟨b, o, c, sz, _, _, _, rfl, _⟩
    · exact ⟨_, _, rfl⟩
    · exact ⟨_, _, rfl⟩
  simp only [qfr, hx]
  exact qlz hle hsz s hlen h1' hb hm hk
theorem Sl.lit {h : Heap} {b n sz size : Nat} {vs : List Value} (hl : vs.length = n * size) : Sl (h.set b (.own 0 vs sz)) size (.slice (some ⟨b, 0, none⟩) n n) n vs :=
  .inr ⟨⟨b, 0, none⟩, n, rfl, Nat.le_refl _, by rw [z71 hl]⟩
theorem Ow.new {h0 h : Heap} (hle : h0.le h) {b : Nat} (hb : h b = none) {size n c sz : Nat} {vs : List Value} (hl : vs.length = n * size) (hc : n ≤ c) (hs : c * size ≤ sz) : Ow h0 (h.set b (.own 0 vs sz)) size (.slice (some ⟨b, 0, none⟩) n c) n vs :=
  .inr ⟨b, 0, c, sz, 0, [], [], rfl, hc, Heap.q1g hle hb, by rw [Heap.q02]; simp, rfl, hl, by omega⟩
theorem Ow.drop {h0 h : Heap} {size : Nat} {b o n c : Nat} {cells : List Value} (s : Ow h0 h size (.slice (some ⟨b, o, none⟩) n c) n cells) {k : Nat} (hk : k ≤ n) : Ow h0 h size (.slice (some ⟨b, o + k * size, none⟩) (n - k) (c - k)) (n - k) (cells.drop (k * size)) := by
  rcases s with ⟨e, _⟩ | ⟨b', o', c', sz, st, pre, rest, e, g2, g3, g4, g5, g6, g7⟩
  · cases e
  · simp only [Value.slice.injEq, Option.some.injEq, Addr.mk.injEq, true_and, and_true] at e
    obtain ⟨⟨rfl, rfl⟩, rfl⟩ := e
    have hm : k * size ≤ n * size := Nat.mul_le_mul_right _ hk
    refine .inr ⟨b, o + k * size, c - k, sz, st, pre ++ cells.take (k * size), rest, rfl, by omega, g3, ?_, ?_, ?_, ?_⟩
    · rw [g4]; congr 2; rw [List.append_assoc pre (List.take _ _), List.take_append_drop]
    · rw [List.length_append, List.length_take, Nat.min_eq_left (by omega)]; omega
    · rw [List.length_drop, g6, Nat.sub_mul]
    · rw [Nat.sub_mul]
      have : k * size ≤ c * size := Nat.mul_le_mul_right _ (by omega)
      omega
theorem Ow.shape {h0 h : Heap} {size : Nat} {v : Value} {n : Nat} {cells : List Value} (s : Ow h0 h size v n cells) : (v = .slice none 0 0 ∧ n = 0 ∧ cells = []) ∨ ∃ b o c, v = .slice (some ⟨b, o, none⟩) n c := by
  rcases s with s | ⟨b, o, c, _, _, _, _, e, _⟩
  · exact .inl s
  · exact .inr ⟨b, o, c, e⟩
end Go.Bb
namespace Go.Bb
set_option maxRecDepth 20000
theorem zB1 : (type_of% @z00) ∧ ((type_of% @z01) ∧ ((type_of% @z02) ∧ ((type_of% @z03) ∧ ((type_of% @z04) ∧ ((type_of% @z05) ∧ ((type_of% @z06) ∧ ((type_of% @z07) ∧ ((type_of% @z08) ∧ ((type_of% @z09) ∧ ((type_of% @z0a) ∧ ((type_of% @z0b) ∧ ((type_of% @z0c) ∧ ((type_of% @z0d) ∧ ((type_of% @z0e) ∧ ((type_of% @z0f) ∧ ((type_of% @z0g) ∧ ((type_of% @z0h) ∧ ((type_of% @z0i) ∧ ((type_of% @z0j) ∧ ((type_of% @z0k) ∧ ((type_of% @z0l) ∧ ((type_of% @z0m) ∧ (type_of% @z0n))))))))))))))))))))))) := And.intro @z00 (And.intro @z01 (And.intro @z02 (And.intro @z03 (And.intro @z04 (And.intro @z05 (And.intro @z06 (And.intro @z07 (And.intro @z08 (And.intro @z09 (And.intro @z0a (And.intro @z0b (And.intro @z0c (And.intro @z0d (And.intro @z0e (And.intro @z0f (And.intro @z0g (And.intro @z0h (And.intro @z0i (And.intro @z0j (And.intro @z0k (And.intro @z0l (And.intro @z0m (@z0n)))))))))))))))))))))))
theorem zB2 : (type_of% @z0o) ∧ ((type_of% @z0p) ∧ ((type_of% @z0q) ∧ ((type_of% @z0r) ∧ ((type_of% @z0s) ∧ ((type_of% @z0t) ∧ ((type_of% @z0u) ∧ ((type_of% @z0v) ∧ ((type_of% @z0w) ∧ ((type_of% @z0x) ∧ ((type_of% @z0y) ∧ ((type_of% @z0z) ∧ ((type_of% @z10) ∧ ((type_of% @z11) ∧ ((type_of% @z12) ∧ ((type_of% @z13) ∧ ((type_of% @z14) ∧ ((type_of% @z15) ∧ ((type_of% @z16) ∧ ((type_of% @z17) ∧ ((type_of% @z18) ∧ ((type_of% @z19) ∧ ((type_of% @z1a) ∧ (type_of% @z1b))))))))))))))))))))))) := And.intro @z0o (And.intro @z0p (And.intro @z0q (And.intro @z0r (And.intro @z0s (And.intro @z0t (And.intro @z0u (And.intro @z0v (And.intro @z0w (And.intro @z0x (And.intro @z0y (And.intro @z0z (And.intro @z10 (And.intro @z11 (And.intro @z12 (And.intro @z13 (And.intro @z14 (And.intro @z15 (And.intro @z16 (And.intro @z17 (And.intro @z18 (And.intro @z19 (And.intro @z1a (@z1b)))))))))))))))))))))))
theorem zB3 : (type_of% @z1c) ∧ ((type_of% @z1d) ∧ ((type_of% @z1e) ∧ ((type_of% @z1f) ∧ ((type_of% @z1g) ∧ ((type_of% @z1h) ∧ ((type_of% @z1i) ∧ ((type_of% @z1j) ∧ ((type_of% @z1k) ∧ ((type_of% @z1l) ∧ ((type_of% @z1m) ∧ ((type_of% @z1n) ∧ ((type_of% @z1o) ∧ ((type_of% @z1p) ∧ ((type_of% @z1q) ∧ ((type_of% @z1r) ∧ ((type_of% @z1s) ∧ ((type_of% @z1t) ∧ ((type_of% @z1u) ∧ ((type_of% @z1v) ∧ ((type_of% @z1w) ∧ ((type_of% @z1x) ∧ ((type_of% @z1y) ∧ (type_of% @z1z))))))))))))))))))))))) := And.intro @z1c (And.intro @z1d (And.intro @z1e (And.intro @z1f (And.intro @z1g (And.intro @z1h (And.intro @z1i (And.intro @z1j (And.intro @z1k (And.intro @z1l (And.intro @z1m (And.intro @z1n (And.intro @z1o (And.intro @z1p (And.intro @z1q (And.intro @z1r (And.intro @z1s (And.intro @z1t (And.intro @z1u (And.intro @z1v (And.intro @z1w (And.intro @z1x (And.intro @z1y (@z1z)))))))))))))))))))))))
theorem zB4 : (type_of% @z20) ∧ ((type_of% @z21) ∧ ((type_of% @z22) ∧ ((type_of% @z23) ∧ ((type_of% @z24) ∧ ((type_of% @z25) ∧ ((type_of% @z26) ∧ ((type_of% @z27) ∧ ((type_of% @z28) ∧ ((type_of% @z29) ∧ ((type_of% @z2a) ∧ ((type_of% @z2b) ∧ ((type_of% @z2c) ∧ ((type_of% @z2d) ∧ ((type_of% @z2e) ∧ ((type_of% @z2f) ∧ ((type_of% @z2g) ∧ ((type_of% @z2h) ∧ ((type_of% @z2i) ∧ ((type_of% @z2j) ∧ ((type_of% @z2k) ∧ ((type_of% @z2l) ∧ ((type_of% @z2m) ∧ (type_of% @z2n))))))))))))))))))))))) := And.intro @z20 (And.intro @z21 (And.intro @z22 (And.intro @z23 (And.intro @z24 (And.intro @z25 (And.intro @z26 (And.intro @z27 (And.intro @z28 (And.intro @z29 (And.intro @z2a (And.intro @z2b (And.intro @z2c (And.intro @z2d (And.intro @z2e (And.intro @z2f (And.intro @z2g (And.intro @z2h (And.intro @z2i (And.intro @z2j (And.intro @z2k (And.intro @z2l (And.intro @z2m (@z2n)))))))))))))))))))))))
theorem zB5 : (type_of% @z2o) ∧ ((type_of% @z2p) ∧ ((type_of% @z2q) ∧ ((type_of% @z2r) ∧ ((type_of% @z2s) ∧ ((type_of% @z2t) ∧ ((type_of% @z2u) ∧ ((type_of% @z2v) ∧ ((type_of% @z2w) ∧ ((type_of% @z2x) ∧ ((type_of% @z2y) ∧ ((type_of% @z2z) ∧ ((type_of% @z30) ∧ ((type_of% @z31) ∧ ((type_of% @z32) ∧ ((type_of% @z33) ∧ ((type_of% @z34) ∧ ((type_of% @z35) ∧ ((type_of% @z36) ∧ ((type_of% @z37) ∧ ((type_of% @z38) ∧ ((type_of% @z39) ∧ ((type_of% @z3a) ∧ (type_of% @z3b))))))))))))))))))))))) := And.intro @z2o (And.intro @z2p (And.intro @z2q (And.intro @z2r (And.intro @z2s (And.intro @z2t (And.intro @z2u (And.intro @z2v (And.intro @z2w (And.intro @z2x (And.intro @z2y (And.intro @z2z (And.intro @z30 (And.intro @z31 (And.intro @z32 (And.intro @z33 (And.intro @z34 (And.intro @z35 (And.intro @z36 (And.intro @z37 (And.intro @z38 (And.intro @z39 (And.intro @z3a (@z3b)))))))))))))))))))))))
theorem zB6 : (type_of% @z3c) ∧ ((type_of% @z3d) ∧ ((type_of% @z3e) ∧ ((type_of% @z3f) ∧ ((type_of% @z3g) ∧ ((type_of% @z3h) ∧ ((type_of% @z3i) ∧ ((type_of% @z3j) ∧ ((type_of% @z3k) ∧ ((type_of% @z3l) ∧ ((type_of% @z3m) ∧ ((type_of% @z3n) ∧ ((type_of% @z3o) ∧ ((type_of% @z3p) ∧ ((type_of% @z3q) ∧ ((type_of% @z3r) ∧ ((type_of% @z3s) ∧ ((type_of% @z3t) ∧ ((type_of% @z3u) ∧ ((type_of% @z3v) ∧ ((type_of% @z3w) ∧ ((type_of% @z3x) ∧ ((type_of% @z3y) ∧ (type_of% @z3z))))))))))))))))))))))) := And.intro @z3c (And.intro @z3d (And.intro @z3e (And.intro @z3f (And.intro @z3g (And.intro @z3h (And.intro @z3i (And.intro @z3j (And.intro @z3k (And.intro @z3l (And.intro @z3m (And.intro @z3n (And.intro @z3o (And.intro @z3p (And.intro @z3q (And.intro @z3r (And.intro @z3s (And.intro @z3t (And.intro @z3u (And.intro @z3v (And.intro @z3w (And.intro @z3x (And.intro @z3y (@z3z)))))))))))))))))))))))
theorem zB7 : (type_of% @z40) ∧ ((type_of% @z41) ∧ ((type_of% @z42) ∧ ((type_of% @z43) ∧ ((type_of% @z44) ∧ ((type_of% @z45) ∧ ((type_of% @z46) ∧ ((type_of% @z47) ∧ ((type_of% @z48) ∧ ((type_of% @z49) ∧ ((type_of% @z4a) ∧ ((type_of% @z4b) ∧ ((type_of% @z4c) ∧ ((type_of% @z4d) ∧ ((type_of% @z4e) ∧ ((type_of% @z4f) ∧ ((type_of% @z4g) ∧ ((type_of% @z4h) ∧ ((type_of% @z4i) ∧ ((type_of% @z4j) ∧ ((type_of% @z4k) ∧ ((type_of% @z4l) ∧ ((type_of% @z4m) ∧ (type_of% @z4n))))))))))))))))))))))) := And.intro @z40 (And.intro @z41 (And.intro @z42 (And.intro @z43 (And.intro @z44 (And.intro @z45 (And.intro @z46 (And.intro @z47 (And.intro @z48 (And.intro @z49 (And.intro @z4a (And.intro @z4b (And.intro @z4c (And.intro @z4d (And.intro @z4e (And.intro @z4f (And.intro @z4g (And.intro @z4h (And.intro @z4i (And.intro @z4j (And.intro @z4k (And.intro @z4l (And.intro @z4m (@z4n)))))))))))))))))))))))
theorem zB8 : (type_of% @z4o) ∧ ((type_of% @z4p) ∧ ((type_of% @z4q) ∧ ((type_of% @z4r) ∧ ((type_of% @z4s) ∧ ((type_of% @z4t) ∧ ((type_of% @z4u) ∧ ((type_of% @z4v) ∧ ((type_of% @z4w) ∧ ((type_of% @z4x) ∧ ((type_of% @z4y) ∧ ((type_of% @z4z) ∧ ((type_of% @z50) ∧ ((type_of% @z51) ∧ ((type_of% @z52) ∧ ((type_of% @z53) ∧ ((type_of% @z54) ∧ ((type_of% @z55) ∧ ((type_of% @z56) ∧ ((type_of% @z57) ∧ ((type_of% @z58) ∧ ((type_of% @z59) ∧ ((type_of% @z5a) ∧ (type_of% @z5b))))))))))))))))))))))) := And.intro @z4o (And.intro @z4p (And.intro @z4q (And.intro @z4r (And.intro @z4s (And.intro @z4t (And.intro @z4u (And.intro @z4v (And.intro @z4w (And.intro @z4x (And.intro @z4y (And.intro @z4z (And.intro @z50 (And.intro @z51 (And.intro @z52 (And.intro @z53 (And.intro @z54 (And.intro @z55 (And.intro @z56 (And.intro @z57 (And.intro @z58 (And.intro @z59 (And.intro @z5a (@z5b)))))))))))))))))))))))
theorem zB9 : (type_of% @z5c) ∧ ((type_of% @z5d) ∧ ((type_of% @z5e) ∧ ((type_of% @z5f) ∧ ((type_of% @z5g) ∧ ((type_of% @z5h) ∧ ((type_of% @z5i) ∧ ((type_of% @z5j) ∧ ((type_of% @z5k) ∧ ((type_of% @z5l) ∧ ((type_of% @z5m) ∧ ((type_of% @z5n) ∧ ((type_of% @z5o) ∧ ((type_of% @z5p) ∧ ((type_of% @z5q) ∧ ((type_of% @z5r) ∧ ((type_of% @z5s) ∧ ((type_of% @z5t) ∧ ((type_of% @z5u) ∧ ((type_of% @z5v) ∧ ((type_of% @z5w) ∧ ((type_of% @z5x) ∧ ((type_of% @z5y) ∧ (type_of% @z5z))))))))))))))))))))))) := And.intro @z5c (And.intro @z5d (And.intro @z5e (And.intro @z5f (And.intro @z5g (And.intro @z5h (And.intro @z5i (And.intro @z5j (And.intro @z5k (And.intro @z5l (And.intro @z5m (And.intro @z5n (And.intro @z5o (And.intro @z5p (And.intro @z5q (And.intro @z5r (And.intro @z5s (And.intro @z5t (And.intro @z5u (And.intro @z5v (And.intro @z5w (And.intro @z5x (And.intro @z5y (@z5z)))))))))))))))))))))))
theorem zB10 : (type_of% @z60) ∧ ((type_of% @z61) ∧ ((type_of% @z62) ∧ ((type_of% @z63) ∧ ((type_of% @z64) ∧ ((type_of% @z65) ∧ ((type_of% @z66) ∧ ((type_of% @z67) ∧ ((type_of% @z68) ∧ ((type_of% @z69) ∧ ((type_of% @z6a) ∧ ((type_of% @z6b) ∧ ((type_of% @z6c) ∧ ((type_of% @z6d) ∧ ((type_of% @z6e) ∧ ((type_of% @z6f) ∧ ((type_of% @z6g) ∧ ((type_of% @z6h) ∧ ((type_of% @z6i) ∧ ((type_of% @z6j) ∧ ((type_of% @z6k) ∧ ((type_of% @z6l) ∧ ((type_of% @z6o) ∧ (type_of% @z6p))))))))))))))))))))))) := And.intro @z60 (And.intro @z61 (And.intro @z62 (And.intro @z63 (And.intro @z64 (And.intro @z65 (And.intro @z66 (And.intro @z67 (And.intro @z68 (And.intro @z69 (And.intro @z6a (And.intro @z6b (And.intro @z6c (And.intro @z6d (And.intro @z6e (And.intro @z6f (And.intro @z6g (And.intro @z6h (And.intro @z6i (And.intro @z6j (And.intro @z6k (And.intro @z6l (And.intro @z6o (@z6p)))))))))))))))))))))))
theorem zB11 : (type_of% @z6s) ∧ ((type_of% @z6t) ∧ ((type_of% @z6u) ∧ ((type_of% @z6v) ∧ ((type_of% @z6w) ∧ ((type_of% @z70) ∧ ((type_of% @z71) ∧ ((type_of% @z72) ∧ ((type_of% @z73) ∧ ((type_of% @Heap.qj6) ∧ ((type_of% @z74) ∧ ((type_of% @z75) ∧ ((type_of% @z76) ∧ ((type_of% @z77) ∧ ((type_of% @z78) ∧ (type_of% @z79))))))))))))))) := And.intro @z6s (And.intro @z6t (And.intro @z6u (And.intro @z6v (And.intro @z6w (And.intro @z70 (And.intro @z71 (And.intro @z72 (And.intro @z73 (And.intro @Heap.qj6 (And.intro @z74 (And.intro @z75 (And.intro @z76 (And.intro @z77 (And.intro @z78 (@z79)))))))))))))))
theorem y00 : type_of% @Option.map_some.{0,0} := @Option.map_some.{0,0}
theorem y01 : type_of% @Option.map_none.{0,0} := @Option.map_none.{0,0}
theorem y02 : type_of% @Option.some.injEq.{0} := @Option.some.injEq.{0}
theorem y03 : type_of% @true_and := @true_and
theorem y04 : type_of% @and_true := @and_true
theorem y05 : type_of% @List.length_cons.{0} := @List.length_cons.{0}
theorem y06 : type_of% @List.length_nil.{0} := @List.length_nil.{0}
theorem y07 : type_of% @List.append_nil.{0} := @List.append_nil.{0}
theorem y08 : type_of% @List.nil_append.{0} := @List.nil_append.{0}
theorem y09 : type_of% @List.cons_append.{0} := @List.cons_append.{0}
theorem y0a : type_of% @List.drop_succ_cons.{0} := @List.drop_succ_cons.{0}
theorem y0b : type_of% @List.drop_zero.{0} := @List.drop_zero.{0}
theorem y0c : type_of% @List.take_succ_cons.{0} := @List.take_succ_cons.{0}
theorem y0d : type_of% @List.take_zero.{0} := @List.take_zero.{0}
theorem y0e : type_of% @List.take_nil.{0} := @List.take_nil.{0}
theorem y0f : type_of% @List.getElem?_cons_zero.{0} := @List.getElem?_cons_zero.{0}
theorem y0g : type_of% @List.getElem?_cons_succ.{0} := @List.getElem?_cons_succ.{0}
theorem y0h : type_of% @decide_true := @decide_true
theorem y0i : type_of% @decide_false := @decide_false
theorem y0j : type_of% @decide_eq_true_eq := @decide_eq_true_eq
theorem y0k : type_of% @decide_eq_false_iff_not := @decide_eq_false_iff_not
theorem y0l : type_of% @Bool.false_eq_true := @Bool.false_eq_true
theorem y0m : type_of% @Bool.true_eq_false := @Bool.true_eq_false
theorem y0n : type_of% @Bool.not_true := @Bool.not_true
theorem y0o : type_of% @Bool.not_false := @Bool.not_false
theorem y0p : type_of% @Bool.not_eq_true' := @Bool.not_eq_true'
theorem y0q : type_of% @Bool.not_eq_false' := @Bool.not_eq_false'
theorem y0r : type_of% @Bool.not_eq_true := @Bool.not_eq_true
theorem y0s : type_of% @Bool.not_eq_false := @Bool.not_eq_false
theorem y0t : type_of% @false_implies := @false_implies
theorem y0u : type_of% @true_implies := @true_implies
theorem y0v : type_of% @beq_iff_eq := @beq_iff_eq
theorem y0w : type_of% @beq_eq_false_iff_ne := @beq_eq_false_iff_ne
theorem y0x : type_of% @bne_iff_ne := @bne_iff_ne
theorem y0y : type_of% @bne_eq_false_iff_eq := @bne_eq_false_iff_eq
theorem y0z : type_of% @ne_eq.{1} := @ne_eq.{1}
theorem y10 : type_of% @ge_iff_le := @ge_iff_le
theorem y11 : type_of% @gt_iff_lt := @gt_iff_lt
theorem y12 : type_of% @Int.not_lt := @Int.not_lt
theorem y13 : type_of% @Int.not_le := @Int.not_le
theorem y14 : type_of% @not_true_eq_false := @not_true_eq_false
theorem y15 : type_of% @not_false_eq_true := @not_false_eq_true
theorem y16 : type_of% @if_true.{1} := @if_true.{1}
theorem y17 : type_of% @if_false.{1} := @if_false.{1}
theorem y18 : type_of% @List.getElem_cons_zero.{0} := @List.getElem_cons_zero.{0}
theorem y19 : type_of% @List.getElem_cons_succ.{0} := @List.getElem_cons_succ.{0}
theorem y1a : type_of% @List.set_cons_zero.{0} := @List.set_cons_zero.{0}
theorem y1b : type_of% @List.set_cons_succ.{0} := @List.set_cons_succ.{0}
theorem y1c : type_of% @List.length_set.{0} := @List.length_set.{0}
theorem y1d : type_of% @List.all_cons.{0} := @List.all_cons.{0}
theorem y1e : type_of% @List.all_nil.{0} := @List.all_nil.{0}
theorem y1f : type_of% @Bool.and_true := @Bool.and_true
theorem y1g : type_of% @Bool.true_and := @Bool.true_and
theorem y1h : type_of% @Bool.and_self := @Bool.and_self
theorem y1i : type_of% @Nat.add_zero := @Nat.add_zero
theorem y1j : type_of% @Nat.zero_add := @Nat.zero_add
theorem y1k : type_of% @Nat.zero_lt_succ := @Nat.zero_lt_succ
theorem y1l : type_of% @Int.cast_ofNat_Int := @Int.cast_ofNat_Int
theorem y1m : type_of% @List.size_toArray.{0} := @List.size_toArray.{0}
theorem y1n : type_of% @List.flatten_replicate_singleton.{0} := @List.flatten_replicate_singleton.{0}
theorem y1o : type_of% @Nat.mul_one := @Nat.mul_one
theorem y1p : type_of% @Nat.le_refl := @Nat.le_refl
theorem y1q : type_of% @Nat.lt_irrefl := @Nat.lt_irrefl
theorem y1r : type_of% @Nat.le_add_left := @Nat.le_add_left
theorem zA : (type_of% @zB1) ∧ ((type_of% @zB2) ∧ ((type_of% @zB3) ∧ ((type_of% @zB4) ∧ ((type_of% @zB5) ∧ ((type_of% @zB6) ∧ ((type_of% @zB7) ∧ ((type_of% @zB8) ∧ ((type_of% @zB9) ∧ ((type_of% @zB10) ∧ ((type_of% @zB11) ∧ ((type_of% @y00) ∧ ((type_of% @y01) ∧ ((type_of% @y02) ∧ ((type_of% @y03) ∧ ((type_of% @y04) ∧ ((type_of% @y05) ∧ ((type_of% @y06) ∧ ((type_of% @y07) ∧ ((type_of% @y08) ∧ ((type_of% @y09) ∧ ((type_of% @y0a) ∧ ((type_of% @y0b) ∧ ((type_of% @y0c) ∧ ((type_of% @y0d) ∧ ((type_of% @y0e) ∧ ((type_of% @y0f) ∧ ((type_of% @y0g) ∧ ((type_of% @y0h) ∧ ((type_of% @y0i) ∧ ((type_of% @y0j) ∧ ((type_of% @y0k) ∧ ((type_of% @y0l) ∧ ((type_of% @y0m) ∧ ((type_of% @y0n) ∧ ((type_of% @y0o) ∧ ((type_of% @y0p) ∧ ((type_of% @y0q) ∧ ((type_of% @y0r) ∧ ((type_of% @y0s) ∧ ((type_of% @y0t) ∧ ((type_of% @y0u) ∧ ((type_of% @y0v.{0}) ∧ ((type_of% @y0w.{0}) ∧ ((type_of% @y0x.{0}) ∧ ((type_of% @y0y.{0}) ∧ ((type_of% @y0z) ∧ ((type_of% @y10.{0}) ∧ ((type_of% @y11.{0}) ∧ ((type_of% @y12) ∧ ((type_of% @y13) ∧ ((type_of% @y14) ∧ ((type_of% @y15) ∧ ((type_of% @y16) ∧ ((type_of% @y17) ∧ ((type_of% @y18) ∧ ((type_of% @y19) ∧ ((type_of% @y1a) ∧ ((type_of% @y1b) ∧ ((type_of% @y1c) ∧ ((type_of% @y1d) ∧ ((type_of% @y1e) ∧ ((type_of% @y1f) ∧ ((type_of% @y1g) ∧ ((type_of% @y1h) ∧ ((type_of% @y1i) ∧ ((type_of% @y1j) ∧ ((type_of% @y1k) ∧ ((type_of% @y1l) ∧ ((type_of% @y1m) ∧ ((type_of% @y1n) ∧ ((type_of% @y1o) ∧ ((type_of% @y1p) ∧ ((type_of% @y1q) ∧ ((type_of% @y1r) ∧ ((type_of% @retO.eq_1) ∧ ((type_of% @retL.eq_1) ∧ ((type_of% @retL.eq_2) ∧ ((type_of% @retL.eq_3) ∧ ((type_of% @retV.eq_1) ∧ ((type_of% @retV.eq_2) ∧ ((type_of% @z6m.eq_1) ∧ ((type_of% @z6m.eq_2) ∧ ((type_of% @z6m.eq_3) ∧ ((type_of% @z6m.eq_4) ∧ ((type_of% @z6m.eq_5) ∧ ((type_of% @z6m.eq_6) ∧ ((type_of% @allV.eq_1) ∧ ((type_of% @allV.eq_2) ∧ ((type_of% @allP.eq_1) ∧ ((type_of% @allP.eq_2) ∧ ((type_of% @z6n.eq_1) ∧ ((type_of% @z6n.eq_2) ∧ ((type_of% @z6q.eq_1) ∧ ((type_of% @z6q.eq_2) ∧ ((type_of% @z6r.eq_1) ∧ ((type_of% @z6r.eq_2) ∧ ((type_of% @z6x.eq_1) ∧ ((type_of% @z6x.eq_2) ∧ ((type_of% @z6y.eq_1) ∧ ((type_of% @z6y.eq_2) ∧ ((type_of% @z6z.eq_1) ∧ ((type_of% @z6z.eq_2) ∧ ((type_of% @binV.eq_1) ∧ ((type_of% @binV.eq_2) ∧ ((type_of% @binV.eq_3) ∧ ((type_of% @binV.eq_4) ∧ ((type_of% @binV.eq_5) ∧ ((type_of% @binV.eq_6) ∧ ((type_of% @binV.eq_7) ∧ ((type_of% @binV.eq_8) ∧ ((type_of% @binV.eq_9) ∧ ((type_of% @binV.eq_10) ∧ ((type_of% @binV.eq_11) ∧ ((type_of% @binV.eq_12) ∧ ((type_of% @binV.eq_13) ∧ ((type_of% @binV.eq_14) ∧ ((type_of% @binV.eq_15) ∧ ((type_of% @binV.eq_16) ∧ ((type_of% @binV.eq_17) ∧ ((type_of% @binV.eq_18) ∧ ((type_of% @binV.eq_19) ∧ ((type_of% @binV.eq_20) ∧ ((type_of% @binV.eq_21) ∧ ((type_of% @binV.eq_22) ∧ ((type_of% @binV.eq_23) ∧ ((type_of% @binV.eq_24) ∧ ((type_of% @binV.eq_25) ∧ ((type_of% @eqV.eq_1) ∧ ((type_of% @eqV.eq_2) ∧ ((type_of% @eqV.eq_3) ∧ ((type_of% @eqV.eq_4) ∧ ((type_of% @eqV.eq_5) ∧ ((type_of% @eqV.eq_6) ∧ ((type_of% @eqV.eq_7) ∧ ((type_of% @eqV.eq_8) ∧ ((type_of% @eqV.eq_9) ∧ ((type_of% @eqV.eq_10) ∧ ((type_of% @eqV.eq_11) ∧ ((type_of% @unV.eq_1) ∧ ((type_of% @unV.eq_2) ∧ ((type_of% @unV.eq_3) ∧ ((type_of% @unV.eq_4) ∧ ((type_of% @oOpt.eq_1) ∧ ((type_of% @oOpt.eq_2) ∧ ((type_of% @Value.cells.eq_1) ∧ (type_of% @Value.cells.eq_2)))))))))))))))))))))))))))))))))))))))))))))))))))))))))))))))))))))))))))))))))))))))))))))))))))))))))))))))))))))))))))))))))))))))))))))))))) := And.intro @zB1 (And.intro @zB2 (And.intro @zB3 (And.intro @zB4 (And.intro @zB5 (And.intro @zB6 (And.intro @zB7 (And.intro @zB8 (And.intro @zB9 (And.intro @zB10 (And.intro @zB11 (And.intro @y00 (And.intro @y01 (And.intro @y02 (And.intro @y03 (And.intro @y04 (And.intro @y05 (And.intro @y06 (And.intro @y07 (And.intro @y08 (And.intro @y09 (And.intro @y0a (And.intro @y0b (And.intro @y0c (And.intro @y0d (And.intro @y0e (And.intro @y0f (And.intro @y0g (And.intro @y0h (And.intro @y0i (And.intro @y0j (And.intro @y0k (And.intro @y0l (And.intro @y0m (And.intro @y0n (And.intro @y0o (And.intro @y0p (And.intro @y0q (And.intro @y0r (And.intro @y0s (And.intro @y0t (And.intro @y0u (And.intro @y0v.{0} (And.intro @y0w.{0} (And.intro @y0x.{0} (And.intro @y0y.{0} (And.intro @y0z (And.intro @y10.{0} (And.intro @y11.{0} (And.intro @y12 (And.intro @y13 (And.intro @y14 (And.intro @y15 (And.intro @y16 (And.intro @y17 (And.intro @y18 (And.intro @y19 (And.intro @y1a (And.intro @y1b (And.intro @y1c (And.intro @y1d (And.intro @y1e (And.intro @y1f (And.intro @y1g (And.intro @y1h (And.intro @y1i (And.intro @y1j (And.intro @y1k (And.intro @y1l (And.intro @y1m (And.intro @y1n (And.intro @y1o (And.intro @y1p (And.intro @y1q (And.intro @y1r (And.intro @retO.eq_1 (And.intro @retL.eq_1 (And.intro @retL.eq_2 (And.intro @retL.eq_3 (And.intro @retV.eq_1 (And.intro @retV.eq_2 (And.intro @z6m.eq_1 (And.intro @z6m.eq_2 (And.intro @z6m.eq_3 (And.intro @z6m.eq_4 (And.intro @z6m.eq_5 (And.intro @z6m.eq_6 (And.intro @allV.eq_1 (And.intro @allV.eq_2 (And.intro @allP.eq_1 (And.intro @allP.eq_2 (And.intro @z6n.eq_1 (And.intro @z6n.eq_2 (And.intro @z6q.eq_1 (And.intro @z6q.eq_2 (And.intro @z6r.eq_1 (And.intro @z6r.eq_2 (And.intro @z6x.eq_1 (And.intro @z6x.eq_2 (And.intro @z6y.eq_1 (And.intro @z6y.eq_2 (And.intro @z6z.eq_1 (And.intro @z6z.eq_2 (And.intro @binV.eq_1 (And.intro @binV.eq_2 (And.intro @binV.eq_3 (And.intro @binV.eq_4 (And.intro @binV.eq_5 (And.intro @binV.eq_6 (And.intro @binV.eq_7 (And.intro @binV.eq_8 (And.intro @binV.eq_9 (And.intro @binV.eq_10 (And.intro @binV.eq_11 (And.intro @binV.eq_12 (And.intro @binV.eq_13 (And.intro @binV.eq_14 (And.intro @binV.eq_15 (And.intro @binV.eq_16 (And.intro @binV.eq_17 (And.intro @binV.eq_18 (And.intro @binV.eq_19 (And.intro @binV.eq_20 (And.intro @binV.eq_21 (And.intro @binV.eq_22 (And.intro @binV.eq_23 (And.intro @binV.eq_24 (And.intro @binV.eq_25 (And.intro @eqV.eq_1 (And.intro @eqV.eq_2 (And.intro @eqV.eq_3 (And.intro @eqV.eq_4 (And.intro @eqV.eq_5 (And.intro @eqV.eq_6 (And.intro @eqV.eq_7 (And.intro @eqV.eq_8 (And.intro @eqV.eq_9 (And.intro @eqV.eq_10 (And.intro @eqV.eq_11 (And.intro @unV.eq_1 (And.intro @unV.eq_2 (And.intro @unV.eq_3 (And.intro @unV.eq_4 (And.intro @oOpt.eq_1 (And.intro @oOpt.eq_2 (And.intro @Value.cells.eq_1 (@Value.cells.eq_2))))))))))))))))))))))))))))))))))))))))))))))))))))))))))))))))))))))))))))))))))))))))))))))))))))))))))))))))))))))))))))))))))))))))))))))))))
end Go.Bb
namespace Go.Bb
set_option linter.unusedVariables false
open Go.RowKit
def q0o (l : List (Nat × FuncId)) (f : FuncId) : Option Nat := (l.find? fun p => p.2 == f).map (·.1)
def qi4 (l : List (Nat × FuncId)) (n : Nat) : Option FuncId := (l.find? fun p => p.1 == n).map (·.2)
theorem ql1 {l : List (Nat × FuncId)} {f : FuncId} {n : Nat} (h : q0o l f = some n) : (n, f) ∈ l := by
  unfold q0o at h
  obtain ⟨p, hp, rfl⟩ := Option.map_eq_some_iff.1 h
  have h1 := List.find?_some hp
  have h2 := List.mem_of_find?_eq_some hp
  simp only [beq_iff_eq] at h1
  subst h1
  exact h2
theorem qi3 {l : List (Nat × FuncId)} {f : FuncId} {n : Nat} (h : qi4 l n = some f) : (n, f) ∈ l := by
  unfold qi4 at h
  obtain ⟨p, hp, rfl⟩ := Option.map_eq_some_iff.1 h
  have h1 := List.find?_some hp
  have h2 := List.mem_of_find?_eq_some hp
  simp only [beq_iff_eq] at h1
  subst h1
  exact h2
def q0q (P : Program) (ψ : FuncId → Option Nat) (tab : Nat → Option (Hint × q0d)) (p : Nat × FuncId) : Prop :=
  ∃ fn hf, P.funcs[p.2]? = some fn ∧ tab p.1 = some hf ∧ fn.body.isSome = true ∧ (fn.name == "runtime.NumGoroutine") = false ∧ compF P ψ hf.1 fn = some hf.2
theorem q0t {P : Program} {ψ : FuncId → Option Nat} {tab : Nat → Option (Hint × q0d)} {n : Nat} {f : FuncId} (fn : Func) (H : Hint) (af : q0d) (h1 : P.funcs[f]? = some fn) (h2 : tab n = some (H, af)) (h3 : fn.body.isSome = true)
    (h4 : (fn.name == "runtime.NumGoroutine") = false) (h5 : compF P ψ H fn = some af) : q0q P ψ tab (n, f) := ⟨fn, (H, af), h1, h2, h3, h4, h5⟩
def envOf (P : Program) (tab : Nat → Option (Hint × q0d)) (l : List (Nat × FuncId)) (hl : l.all (fun p => qi4 l p.1 == some p.2) = true) (hr : ∀ p ∈ l, q0q P (q0o l) tab p) (hf : ∀ n, (tab n).isSome = true → ∃ g, qi4 l n = some g) : EnvT tab where
  full := hf
  P := P
  fid := qi4 l
  ψ := q0o l
  fid_ok f n h := by
    have := List.all_eq_true.1 hl _ (ql1 h)
    simpa using this
  body_ok n f h := by
    obtain ⟨fn, hf, h1, h2, h3, h4, h5⟩ := hr _ (qi3 h)
    exact ⟨fn, h1, h3, h4⟩
  tab_ok n f h := by
    obtain ⟨fn, hf, h1, h2, h3, h4, h5⟩ := hr _ (qi3 h)
    exact ⟨fn, hf, h1, h2, h5⟩
theorem full_of {t : NT} {l : List (Nat × FuncId)} (h : t.keys.all (fun n => (qi4 l n).isSome) = true) : ∀ n, (t.find n).isSome = true → ∃ g, qi4 l n = some g := by
  intro n hn
  have := List.all_eq_true.1 h n (NT.qfw t n hn)
  cases e : qi4 l n with
  | none => rw [e] at this; cases this
  | some g => exact ⟨g, rfl⟩
def qa9 (w : World) : Heap := fun b => (w.heap[b]?).map .ro
theorem qjp (w : World) : Sat (qa9 w) w := by
  intro b x h
  unfold qa9 at h
  obtain ⟨o, ho, rfl⟩ := Option.map_eq_some_iff.1 h
  exact ho
theorem fr_below {h' : Heap} {w w' : World} (f : Fr (qa9 w) h' w w') : Below w.heap.size w w' :=
  ⟨f.os, f.tape, f.output.1, f.size, fun k hk => f.keep k hk (.inr ⟨w.heap[k], by unfold qa9; rw [Array.getElem?_eq_getElem hk]; rfl⟩)⟩
theorem row_of {E : Env} {n : Nat} {f : FuncId} (hf : E.fid n = some f) {args : List Value} {w : World} (a : ACallN E n args (qa9 w) fun v _ => v = .bool true) :
    Calls E.P f args.toArray w fun e w' => e = .returned (.bool true) ∧ Below w.heap.size w w' :=
  (a f hf w (qjp w)).mono fun e w' ⟨v, h', he, _, hf, hv⟩ => ⟨hv ▸ he, fr_below hf⟩
end Go.Bb
namespace Go.Bb
set_option linter.unusedVariables false
set_option linter.unusedSimpArgs false
open Go.RowKit
inductive Shp where
  | int (k : IntKind)
  | str
  | bool
  | slice (size : Nat) (e : Shp)
  | struct (n : Nat) (fs : Shp)
  | fld (off size : Nat) (s rest : Shp)
  | fend
  | array (n size : Nat) (e : Shp)
def Shp.okC (W : World) : Shp → List Value → Prop
  | .int k, cs => ∃ n, cs = [.int k n] ∧ k.min ≤ n ∧ n ≤ k.max
  | .str, cs => ∃ s, cs = [.string s] ∧ s.size ≤ 9223372036854775807
  | .bool, cs => ∃ b, cs = [.bool b]
  | .slice size e, cs => cs = [.slice none 0 0] ∨ ∃ a len cap, cs = [.slice (some a) len cap] ∧ len ≤ cap ∧ cap ≤ 9223372036854775807 ∧ ∀ i, i < len → ∃ l, W.cells? 0 (a.add (i * size)) size = some l ∧ e.okC W l
  | .struct n fs, cs => cs.length = n ∧ fs.okC W cs
  | .fld off size s rest, cs => s.okC W ((cs.drop off).take size) ∧ rest.okC W cs
  | .fend, _ => True
  | .array n size e, cs => cs.length = n * size ∧ ∀ i, i < n → e.okC W ((cs.drop (i * size)).take size)
def Shp.wide : Shp → Bool
  | .struct .. | .array .. => true
  | _ => false
def Shp.ok (W : World) (s : Shp) (v : Value) : Prop := s.okC W v.cells.toList ∧ if s.wide = true then ∃ cs, v = .agg cs else one v = true
def Shp.isField : Shp → Bool
  | .fld .. | .fend => true
  | _ => false
def Shp.fits (P : Program) : Shp → TypeId → List Field → Bool
  | .int k, t, _ => match P.underlying t with | some (.int k') => decide (k' = k) | _ => false
  | .str, t, _ => match P.underlying t with | some .string => true | _ => false
  | .bool, t, _ => match P.underlying t with | some .bool => true | _ => false
  | .slice size e, t, _ => match P.underlying t with | some (.slice u) => !e.isField && (P.cellsOf u == size && e.fits P u []) | _ => false
  | .struct n fs, t, _ => match P.underlying t with | some (.struct fl) => fs.isField && (P.cellsOf t == n && fs.fits P t fl.toList) | _ => false
  | .fld off size s rest, t, fl => match fl with | f :: fl => f.offset == off && (P.cellsOf f.type == size && (s.fits P f.type [] && (rest.fits P t fl && (!s.isField && rest.isField)))) | [] => false
  | .fend, t, fl => fl.isEmpty
  | .array n size e, t, _ => match P.underlying t with | some (.array m u) => m == n && (P.cellsOf t == n * size && (P.cellsOf u == size && (e.fits P u [] && !e.isField))) | _ => false
section
variable {H : Type} {enc : TypeId × Value → H} {P : Program} {W : World} {spare : Nat → Bool} {held : Bool}
theorem wf_int {k : IntKind} {n : Int} (h : (Lit.int k n).wf = true) : k.min ≤ n ∧ n ≤ k.max := by
  simp only [Lit.wf, Bool.and_eq_true, decide_eq_true_eq] at h
  exact h
theorem Shp.qgk : ∀ (s : Shp), (∀ (t : TypeId) (fuel : Nat) (cs : List Value) (x : DataW H × List MemPlace), s.isField = false → s.fits P t [] = true → DataW.trod enc P W 0 spare held fuel t cs = some x → s.okC W cs) ∧
    (∀ (t : TypeId) (fl : List Field) (fuel : Nat) (cs : List Value), s.isField = true → s.fits P t fl = true → (∀ f ∈ fl, ∃ y, DataW.trod enc P W 0 spare held fuel f.type ((cs.drop f.offset).take (P.cellsOf f.type)) = some y) → s.okC W cs)
  | .int k => by
    refine ⟨fun t fuel cs x _ hf h => ?_, fun _ _ _ _ h => by cases h⟩
    simp only [Shp.fits] at hf
    split at hf
    · rename_i k' ht
      simp only [decide_eq_true_eq] at hf; subst hf
      obtain ⟨n, rfl, _, hw⟩ := DataW.trod_int ht h
      exact ⟨n, rfl, wf_int hw⟩
    · cases hf
  | .str => by
    refine ⟨fun t fuel cs x _ hf h => ?_, fun _ _ _ _ h => by cases h⟩
    simp only [Shp.fits] at hf
    split at hf
    · rename_i ht
      obtain ⟨n, rfl, _, hw⟩ := DataW.trod_string ht h
      exact ⟨n, rfl, hw⟩
    · cases hf
  | .bool => by
    refine ⟨fun t fuel cs x _ hf h => ?_, fun _ _ _ _ h => by cases h⟩
    simp only [Shp.fits] at hf
    split at hf
    · rename_i ht
      cases fuel with
      | zero => simp [DataW.trod] at h
      | succ m =>
        unfold DataW.trod at h
        rw [ht] at h
        split at h <;> simp_all
        exact ⟨_, rfl⟩
    · cases hf
  | .slice size e => by
    refine ⟨fun t fuel cs x _ hf h => ?_, fun _ _ _ _ h => by cases h⟩
    simp only [Shp.fits] at hf
    split at hf
    · rename_i u ht
      simp only [Bool.and_eq_true, beq_iff_eq, Bool.not_eq_true'] at hf
      obtain ⟨hne, hf⟩ := hf
      rcases DataW.trod_slice ht h with ⟨h0, _⟩ | ⟨a, len, cap, elems, rest, n, _, rfl, _, _, hl, hm, hlen, hel, _⟩
      · exact .inl h0
      · refine .inr ⟨a, len, cap, rfl, hl, hm, fun i hi => ?_⟩
        have := hel i hi
        have hi2 : i < elems.length := by omega
        rw [List.getElem?_eq_getElem hi2, Option.bind_eq_some_iff] at this
        obtain ⟨l, hl1, hl2⟩ := this
        rw [hf.1] at hl1
        exact ⟨l, hl1, (Shp.qgk e).1 u n l _ hne hf.2 hl2⟩
    · cases hf
  | .struct n fs => by
    refine ⟨fun t fuel cs x _ hf h => ?_, fun _ _ _ _ h => by cases h⟩
    simp only [Shp.fits] at hf
    split at hf
    · rename_i fl ht
      simp only [Bool.and_eq_true, beq_iff_eq] at hf
      obtain ⟨hfi, hf⟩ := hf
      obtain ⟨xs, m, _, _, hc, hxl, hx⟩ := DataW.trod_struct ht h
      refine ⟨by omega, ?_⟩
      · refine (Shp.qgk fs).2 t fl.toList m cs hfi hf.2 fun f hfm => ?_
        obtain ⟨i, hi⟩ := List.getElem?_of_mem hfm
        have h1 := hx i f (by simpa using hi)
        have : i < xs.length := by
          rw [hxl]
          rcases Nat.lt_or_ge i fl.size with g | g
          · exact g
          · simp [Array.getElem?_eq_none g] at hi
        rw [List.getElem?_eq_getElem this] at h1
        exact ⟨_, h1⟩
    · cases hf
  | .fld off size s rest => by
    refine ⟨(fun t fuel cs x h => by cases h), fun t fl fuel cs _ hf h => ?_⟩
    simp only [Shp.fits] at hf
    split at hf
    · rename_i f fl
      simp only [Bool.and_eq_true, beq_iff_eq, Bool.not_eq_true'] at hf
      obtain ⟨h1, h2, h3, h4, h5, h6⟩ := hf
      obtain ⟨y, hy⟩ := h f (by simp)
      rw [h1, h2] at hy
      refine ⟨?_, ?_⟩
      · exact (Shp.qgk s).1 f.type fuel _ y h5 h3 hy
      · exact (Shp.qgk rest).2 t fl fuel cs h6 h4 fun g hg => h g (by simp [hg])
    · cases hf
  | .fend => ⟨(fun t fuel cs x h => by cases h), fun t fl fuel cs _ hf h => trivial⟩
  | .array n size e => by
    refine ⟨fun t fuel cs x _ hf h => ?_, fun _ _ _ _ h => by cases h⟩
    simp only [Shp.fits] at hf
    split at hf
    · rename_i m u ht
      simp only [Bool.and_eq_true, beq_iff_eq, Bool.not_eq_true'] at hf
      obtain ⟨rfl, h2, h3, h4, h5⟩ := hf
      obtain ⟨xs, q, _, _, hc, hxl, hx⟩ := DataW.trod_array ht h
      refine ⟨by omega, fun i hi => ?_⟩
      have := hx i hi
      rw [List.getElem?_eq_getElem (by omega), h3] at this
      exact (Shp.qgk e).1 u q _ _ h5 h4 this
    · cases hf
theorem Shp.ok_of {s : Shp} {t : TypeId} {v : Value} {base : Nat} {d : DataW H} {ps : List MemPlace} (hs : (!s.isField && s.fits P t []) = true) (hv : Value.okWide P W .any base t v) (h : DataW.Trod enc P W 0 spare held t v d ps) : s.ok W v := by
  simp only [Bool.and_eq_true, Bool.not_eq_true'] at hs
  obtain ⟨fuel, h⟩ := h
  refine ⟨(Shp.qgk s).1 t fuel _ _ hs.1 hs.2 h, ?_⟩
  have key : (∀ fs, P.underlying t ≠ some (.struct fs)) → (∀ n e, P.underlying t ≠ some (.array n e)) → Cell.okWide P W .any base t v := by
    intro h1 h2
    unfold Value.okWide at hv
    split at hv
    · rename_i fs hh; exact absurd hh (h1 fs)
    · rename_i n e hh; exact absurd hh (h2 n e)
    · exact hv
  obtain ⟨hs1, hs2⟩ := hs
  cases s with
  | struct n fs =>
    simp only [Shp.fits] at hs2
    split at hs2
    · rename_i fl ht
      unfold Value.okWide at hv
      rw [ht] at hv
      obtain ⟨cs, rfl, _⟩ := hv
      exact ⟨cs, rfl⟩
    · cases hs2
  | array n size e =>
    simp only [Shp.fits] at hs2
    split at hs2
    · rename_i m u ht
      unfold Value.okWide at hv
      rw [ht] at hv
      obtain ⟨cs, rfl, _⟩ := hv
      exact ⟨cs, rfl⟩
    · cases hs2
  | fld => cases hs1
  | fend => cases hs1
  | int k =>
    simp only [Shp.fits] at hs2
    split at hs2
    · rename_i k' ht
      have := key (fun fs hh => by rw [hh] at ht; cases ht) (fun n e hh => by rw [hh] at ht; cases ht)
      unfold Cell.okWide Cell.ok at this
      rw [ht] at this
      cases v <;> first | rfl | exact this.elim
    · cases hs2
  | str =>
    simp only [Shp.fits] at hs2
    split at hs2
    · rename_i ht
      have := key (fun fs hh => by rw [hh] at ht; cases ht) (fun n e hh => by rw [hh] at ht; cases ht)
      unfold Cell.okWide Cell.ok at this
      rw [ht] at this
      cases v <;> first | rfl | exact this.elim
    · cases hs2
  | bool =>
    simp only [Shp.fits] at hs2
    split at hs2
    · rename_i ht
      have := key (fun fs hh => by rw [hh] at ht; cases ht) (fun n e hh => by rw [hh] at ht; cases ht)
      unfold Cell.okWide Cell.ok at this
      rw [ht] at this
      cases v <;> first | rfl | exact this.elim
    · cases hs2
  | slice size e =>
    simp only [Shp.fits] at hs2
    split at hs2
    · rename_i u ht
      have := key (fun fs hh => by rw [hh] at ht; cases ht) (fun n e hh => by rw [hh] at ht; cases ht)
      unfold Cell.okWide Cell.ok at this
      rw [ht] at this
      cases v <;> first | rfl | exact this.elim
    · cases hs2
end
section
variable {W : World}
theorem Shp.ok_int {k : IntKind} {v : Value} (h : Shp.ok W (.int k) v) : ∃ n, v = .int k n ∧ k.min ≤ n ∧ n ≤ k.max := by
  obtain ⟨⟨n, h1, h2⟩, h3⟩ := h
  refine ⟨n, ?_, h2⟩
  cases v <;> simp_all [Value.cells, Shp.wide, one]
theorem qht {v u : Value} (h : one v = true) (e : v.cells.toList = [u]) : v = u := by
  cases v <;> simp_all [Value.cells, one]
theorem cells?_spec {a : Addr} {n : Nat} {l : List Value} (h : W.cells? 0 a n = some l) : l.length = n ∧ ∀ i, i < n → W.cell? (a.add i) = l[i]? := by
  unfold World.cells? at h
  simp only [Nat.zero_le, if_true] at h
  have key : ∀ (r : List Nat) (l : List Value), (r.mapM fun i => W.cell? (a.add i)) = some l → l.length = r.length ∧ ∀ (j i : Nat), r[j]? = some i → W.cell? (a.add i) = l[j]? := by
    intro r
    induction r with
    | nil => intro l h; simp at h; subst h; simp
    | cons i r ih =>
      intro l h
      simp only [List.mapM_cons, Option.bind_eq_bind, Option.bind_eq_some_iff, Option.pure_def, Option.some.injEq] at h
      obtain ⟨v, hv, vs, hvs, rfl⟩ := h
      obtain ⟨h1, h2⟩ := ih vs hvs
      refine ⟨by simp [h1], ?_⟩
      intro j k hk
      cases j with
      | zero => simp at hk; subst hk; simpa using hv
      | succ j => simp at hk; simpa using h2 j k hk
  obtain ⟨h1, h2⟩ := key _ _ h
  simp only [List.length_range] at h1
  exact ⟨h1, fun i hi => h2 i i (by simp [hi])⟩
theorem add_add (a : Addr) (i j : Nat) : (a.add i).add j = a.add (i + j) := by
  obtain ⟨b, o, s⟩ := a
  unfold Addr.add
  split
  · rename_i h; subst h; split <;> simp_all
  · split
    · rename_i h; subst h; simp_all
    · rename_i h1 h2
      rw [if_neg (by omega)]
      cases s <;> simp_all <;> omega
theorem qlf {a : Addr} {n : Nat} {l : List Value} (hl : l.length = n) (h : ∀ i, i < n → W.cell? (a.add i) = l[i]?) : q09 (qa9 W) a n = some l := by
  cases n with
  | zero => simp [q09, List.eq_nil_of_length_eq_zero hl]
  | succ n =>
    have h0 := h 0 (by omega)
    have e0 : a.add 0 = a := by unfold Addr.add; simp
    rw [e0] at h0
    unfold World.cell? at h0
    have hl0 : l[0]? = some l[0] := List.getElem?_eq_getElem (by omega)
    rw [hl0] at h0
    split at h0
    · rename_i c el fr hb
      split at h0
      · cases h0
      · rename_i hs
        have hs : a.spot = none := by simpa using hs
        have hc : ∀ i, i < n + 1 → c[a.off + i]? = l[i]? := by
          intro i hi
          have := h i hi
          unfold World.cell? at this
          rw [qar, hb] at this
          simp only [qeo hs, qfu, Option.isSome_none, Bool.false_eq_true, if_false] at this
          exact this
        have hsz : a.off + (n + 1) ≤ c.size := by
          have := hc n (by omega)
          rw [List.getElem?_eq_getElem (by omega)] at this
          rcases Nat.lt_or_ge (a.off + n) c.size with g | g
          · omega
          · rw [Array.getElem?_eq_none g] at this; cases this
        simp only [q09, hs, qa9, hb, Option.map_some]
        rw [if_pos hsz]
        congr 1
        apply List.ext_getElem?
        intro i
        rw [List.getElem?_take]
        by_cases hi : i < n + 1
        · rw [if_pos hi, List.getElem?_drop, Array.getElem?_toList, hc i hi]
        · rw [if_neg hi, List.getElem?_eq_none (by omega)]
    · cases h0
theorem Shp.qm4 {α : Type} {size : Nat} {e : Shp} {v : Value} (f : α → List Value) (Pr : α → Prop) (hf : ∀ x, (f x).length = size) (view : ∀ l, e.okC W l → ∃ x, l = f x ∧ Pr x) (h : Shp.ok W (.slice size e) v) :
    ∃ L : List α, Sl (qa9 W) size v L.length (L.flatMap f) ∧ L.length ≤ 9223372036854775807 ∧ ∀ x ∈ L, Pr x := by
  obtain ⟨h1, h2⟩ := h
  simp only [Shp.wide, Bool.false_eq_true, if_false] at h2
  rcases h1 with h1 | ⟨a, len, cap, h1, hl, hm, hc⟩
  · have := qht h2 h1
    subst this
    exact ⟨[], .inl ⟨rfl, rfl, rfl⟩, by simp, by simp⟩
  · have := qht h2 h1
    subst this
    have key : ∀ n, n ≤ len → ∃ L : List α, L.length = n ∧ (∀ x ∈ L, Pr x) ∧ ∀ j, j < n * size → W.cell? (a.add j) = (L.flatMap f)[j]? := by
      intro n
      induction n with
      | zero => intro _; exact ⟨[], rfl, by simp, by simp⟩
      | succ n ih =>
        intro hn
        obtain ⟨L, g1, g2, g3⟩ := ih (by omega)
        obtain ⟨l, w1, w2⟩ := hc n (by omega)
        obtain ⟨x, rfl, hx⟩ := view l w2
        obtain ⟨u1, u2⟩ := cells?_spec w1
        refine ⟨L ++ [x], by simp [g1], ?_, ?_⟩
        · intro y hy
          simp only [List.mem_append, List.mem_singleton] at hy
          rcases hy with hy | rfl
          · exact g2 y hy
          · exact hx
        · intro j hj
          have hfl : (L.flatMap f).length = n * size := by
            rw [List.length_flatMap]
            have : L.map (fun a => (f a).length) = List.replicate L.length size := by
              rw [List.eq_replicate_iff]
              simp [hf]
            rw [this, List.sum_replicate_nat, g1]
          rw [List.flatMap_append, List.flatMap_singleton]
          by_cases hj2 : j < n * size
          · rw [g3 j hj2, List.getElem?_append_left (by omega)]
          · rw [List.getElem?_append_right (by omega), hfl]
            have : (n + 1) * size = n * size + size := Nat.succ_mul _ _
            rw [← u2 (j - n * size) (by omega), add_add]
            congr 2; omega
    obtain ⟨L, g1, g2, g3⟩ := key len (Nat.le_refl _)
    refine ⟨L, .inr ⟨a, cap, by rw [g1], by omega, ?_⟩, by omega, g2⟩
    rw [g1]
    refine qlf ?_ g3
    rw [List.length_flatMap]
    have : L.map (fun a => (f a).length) = List.replicate L.length size := by
      rw [List.eq_replicate_iff]
      simp [hf]
    rw [this, List.sum_replicate_nat, g1]
end
end Go.Bb
