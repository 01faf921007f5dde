/- My contracts: BbLjou5 BbLjou6. -/
import Derived.Test.YtfekancobbplaaaDoorBbG3
import Derived.Test.YtfekancobbplaaaDoorBbM3
/- A journal and its disk, plainly: what stays behind any fall. -/
namespace Go.Bb
set_option linter.unusedSimpArgs false
set_option linter.unusedVariables false
set_option maxRecDepth 20000

theorem sha_zero : (shaF [0, 0, 0, 0]).take 16 ≠ List.replicate 16 0 := by decide +kernel
theorem nextF_zeros (n : Nat) (hn : 20 ≤ n) (R : List UInt8) : nextF (List.replicate n 0 ++ R) = none := by
  have t4 : (List.replicate n (0 : UInt8) ++ R).take 4 = [0, 0, 0, 0] := by
    rw [List.take_append_of_le_length (by simp; omega), List.take_replicate, Nat.min_eq_left (by omega)]; rfl
  have d4 : ((List.replicate n (0 : UInt8) ++ R).drop 4).take 16 = List.replicate 16 0 := by
    rw [List.drop_append_of_le_length (by simp; omega), List.drop_replicate, List.take_append_of_le_length (by simp; omega), List.take_replicate, Nat.min_eq_left (by omega)]
  have hb : (fromBigF [0, 0, 0, 0]).toNat = 0 := by decide
  unfold nextF
  rw [t4, hb, d4, List.take_zero, List.append_nil, if_neg (by simp; omega), if_neg (by omega), if_neg sha_zero]
theorem nextF_cut (b : List UInt8) (q : Nat) (hq : q < (frameF b).length) (hb : b.length < 4294967296) : nextF ((frameF b).take q) = none := by
  have hfr := frameF_len b
  have lq : ((frameF b).take q).length = q := by rw [List.length_take]; omega
  unfold nextF
  rw [lq]
  by_cases h : q < 20
  · rw [if_pos h]
  · rw [if_neg h]
    have t4 : ((frameF b).take q).take 4 = be4 b.length := by
      rw [List.take_take, Nat.min_eq_left (by omega)]
      unfold frameF
      rw [List.append_assoc]
      exact take_app' (be4_len _)
    rw [t4, fromBig_be4 hb, if_pos (by omega)]
theorem nextF_app {b x y : List UInt8} (R : List UInt8) (h : nextF b = some (x, y)) : nextF (b ++ R) = some (x, y ++ R) := by
  unfold nextF at h
  split at h
  · cases h
  rename_i h1
  split at h
  · cases h
  rename_i h2
  split at h
  · rename_i h3
    simp only [Option.some.injEq, Prod.mk.injEq] at h
    obtain ⟨rfl, rfl⟩ := h
    have t4 : (b ++ R).take 4 = b.take 4 := List.take_append_of_le_length (by omega)
    have t20 : ((b ++ R).drop 20).take (fromBigF (b.take 4)).toNat = (b.drop 20).take (fromBigF (b.take 4)).toNat := by
      rw [List.drop_append_of_le_length (by omega), List.take_append_of_le_length (by rw [List.length_drop]; omega)]
    have t16 : ((b ++ R).drop 4).take 16 = (b.drop 4).take 16 := by
      rw [List.drop_append_of_le_length (by omega), List.take_append_of_le_length (by rw [List.length_drop]; omega)]
    unfold nextF
    rw [t4, t20, t16, if_neg (by rw [List.length_append]; omega), if_neg (by rw [List.length_append]; omega), if_pos h3, List.drop_append_of_le_length (by omega)]
  · cases h
theorem parse_whole : ∀ (n : Nat) (b R : List UInt8), b.length ≤ n → (parse b).2 = true → parse (b ++ R) = ((parse b).1 ++ (parse R).1, (parse R).2)
  | 0, b, R, hn, h => by
    have : b = [] := List.eq_nil_of_length_eq_zero (by omega)
    subst this; rfl
  | n + 1, b, R, hn, h => by
    by_cases hz : b = []
    · subst hz; rfl
    · cases hx : nextF b with
      | none => rw [parse_none hx hz] at h; cases h
      | some q =>
        obtain ⟨x, y⟩ := q
        have hl := (nextF_len hx).1
        rw [parse_some hx] at h ⊢
        rw [parse_some (nextF_app R hx), parse_whole n y R (by omega) h]
        rfl
/-- What is kept from write k on. -/
def keptK (keep : U64) (torn : Int) (l k : Nat) (W : List (List UInt8)) : List UInt8 := (List.range' k (l - k)).flatMap fun i => leftF keep torn l i (W.getD i [])
theorem kept_eq (keep : U64) (torn : Int) (l : Nat) (W : List (List UInt8)) : keptF keep torn l W l = keptK keep torn l 0 W := by
  unfold keptF keptK
  rw [Nat.sub_zero, List.range_eq_range']
theorem keptK_parse (keep : U64) (torn : Int) (l : Nat) (w : List (List UInt8)) (hw : ∀ b ∈ w, b.length < 4294967296) (hl : l ≤ w.length) : ∀ (n k : Nat), l - k = n → k ≤ l → ∃ m fl, m ≤ w.length - k ∧ parse (keptK keep torn l k (w.map frameF)) = ((w.drop k).take m, fl)
  | 0, k, hn, hk => ⟨0, true, by omega, by unfold keptK; rw [hn]; simp [parse_nil]⟩
  | n + 1, k, hn, hk => by
    have hkl : k < l := by omega
    have hkw : k < w.length := by omega
    have eg : (w.map frameF).getD k [] = frameF w[k] := by simp [List.getD, List.getElem?_eq_getElem hkw]
    have es : keptK keep torn l k (w.map frameF) = leftF keep torn l k (frameF w[k]) ++ keptK keep torn l (k + 1) (w.map frameF) := by
      unfold keptK
      rw [show l - k = (l - (k + 1)) + 1 by omega, List.range'_succ, List.flatMap_cons, eg]
    have hb := hw _ (List.getElem_mem hkw)
    have hfr := frameF_len w[k]
    rw [es]
    unfold leftF
    by_cases st : staysF keep k = true
    · rw [if_pos st]
      by_cases c : k + 1 = l ∧ 0 < torn
      · rw [if_pos c]
        have e0 : keptK keep torn l (k + 1) (w.map frameF) = [] := by unfold keptK; rw [show l - (k + 1) = 0 by omega]; rfl
        rw [e0, List.append_nil]
        have hq : (frameF w[k]).length - min torn.toNat (frameF w[k]).length < (frameF w[k]).length := by
          have := c.2; omega
        by_cases hz : (frameF w[k]).take ((frameF w[k]).length - min torn.toNat (frameF w[k]).length) = []
        · rw [hz]; exact ⟨0, true, by omega, by simp [parse_nil]⟩
        · exact ⟨0, false, by omega, by rw [parse_none (nextF_cut _ _ hq hb) hz]; simp⟩
      · rw [if_neg c]
        obtain ⟨m, fl, hm, e⟩ := keptK_parse keep torn l w hw hl n (k + 1) (by omega) (by omega)
        refine ⟨m + 1, fl, by omega, ?_⟩
        rw [parse_some (nextF_frame w[k] _ hb), e, List.drop_eq_getElem_cons hkw, List.take_succ_cons]
    · rw [if_neg st, hfr]
      refine ⟨0, false, by omega, ?_⟩
      have hne : List.replicate (20 + w[k].length) (0 : UInt8) ++ keptK keep torn l (k + 1) (w.map frameF) ≠ [] := by
        intro h
        have := congrArg List.length h
        simp only [List.length_append, List.length_replicate, List.length_nil] at this
        omega
      rw [parse_none (nextF_zeros _ (by omega) _) hne]
      rfl
/-- Behind a fall: a file's bytes tell its safe records, and a beginning of the others. -/
theorem crash_parse {S : List UInt8} {w : List (List UInt8)} (hS : (parse S).2 = true) (hw : ∀ b ∈ w, b.length < 4294967296) (keep : U64) (torn : Int) :
    ∃ X m fl, FileF.crash ⟨S, w.map frameF⟩ keep torn = ⟨X, []⟩ ∧ m ≤ w.length ∧ parse X = ((parse S).1 ++ w.take m, fl) ∧ X.length ≤ S.length + (w.flatMap frameF).length := by
  have hl := lastF_le keep (w.map frameF).length
  have hk := keptF_len keep torn (lastF keep (w.map frameF).length) (w.map frameF) _ hl
  have ht := take_flat_len (w.map frameF) (lastF keep (w.map frameF).length)
  obtain ⟨m, fl, hm, e⟩ := keptK_parse keep torn (lastF keep (w.map frameF).length) w hw (by rw [List.length_map] at hl; rwa [List.length_map]) _ 0 rfl (by omega)
  refine ⟨_, m, fl, rfl, by omega, ?_, ?_⟩
  · simp only
    rw [parse_whole _ S _ (Nat.le_refl _) hS, kept_eq, e]
    rfl
  · simp only [List.length_append, List.flatMap] at *
    omega

/-! ### a journal with its disk -/
structure JS (room lives : Int) (T : Nat) (base : List UInt8) (old : List FileF) (cur : Option FileF) (k z : Nat) (J : JF) (D : DiskF) : Prop where
  eD : D = dJ room lives T base (old ++ cur.toList)
  eJ : J = { lives := lives, turn := T, part := old.length, written := cur.isSome, base := base, recs := recsOf (old ++ cur.toList) }
  hT : T < 60
  hb : T = 0 → base = []
  hbl : base.length ≤ 65536
  ho : old.length ≤ 58
  hold : ∀ F ∈ old, F.writes = [] ∧ (parse F.all).2 = false
  hcur : ∀ F, cur = some F → ∃ w : List (List UInt8), F.writes = w.map frameF ∧ (parse F.safe).2 = true ∧ (∀ b ∈ w, b.length < 4294967296) ∧ w.length ≤ k
  hz : ((old ++ cur.toList).map FileF.size).sum ≤ z
theorem whole_all {F : FileF} {w : List (List UInt8)} (h1 : F.writes = w.map frameF) (h2 : (parse F.safe).2 = true) (h3 : ∀ b ∈ w, b.length < 4294967296) : parse F.all = ((parse F.safe).1 ++ w, true) := by
  unfold FileF.all
  rw [h1, parse_whole _ F.safe _ (Nat.le_refl _) h2]
  have : (w.map frameF).flatten = w.flatMap frameF := rfl
  rw [this, parse_all w h3]
/-- How many records are safe. -/
def safeN (old : List FileF) (cur : Option FileF) : Nat := (recsOf old).length + (match cur with | none => 0 | some F => (parse F.safe).1.length)
theorem recs_app (a b : List FileF) : recsOf (a ++ b) = recsOf a ++ recsOf b := by simp [recsOf]
theorem recs_one (F : FileF) : recsOf [F] = (parse F.all).1 := by simp [recsOf]
theorem lastP_app : ∀ (p : Nat) (pr : Nat × Bool) (l : List FileF) (F : FileF), lastP p pr (l ++ [F]) = if (parse F.all).2 = true then (p + l.length, true) else (p + l.length + 1, false)
  | p, pr, [], F => rfl
  | p, pr, G :: l, F => by
    rw [List.cons_append, lastP, lastP_app (p + 1) _ l F, List.length_cons]
    rw [show p + 1 + l.length = p + (l.length + 1) by omega]
theorem lastP_old {old : List FileF} (h : ∀ F ∈ old, F.writes = [] ∧ (parse F.all).2 = false) : lastP 0 (0, false) old = (old.length, false) := by
  rcases List.eq_nil_or_concat old with rfl | ⟨l, F, rfl⟩
  · rfl
  · rw [List.concat_eq_append] at h ⊢
    rw [lastP_app, if_neg (by rw [(h F (by simp)).2]; simp)]
    simp
theorem sync_old {F : FileF} (h : F.writes = []) : F.sync = F := by
  obtain ⟨s, w⟩ := F
  simp only at h
  subst h
  simp [FileF.sync, FileF.all]
theorem crash_old {F : FileF} (h : F.writes = []) (keep : U64) (torn : Int) : F.crash keep torn = F := by
  obtain ⟨s, w⟩ := F
  simp only at h
  subst h
  exact crash_safe _ _ _
section
variable {room lives : Int} {T : Nat} {base : List UInt8} {old : List FileF} {cur : Option FileF} {k z : Nat} {J : JF} {D : DiskF}
theorem JS.okW (S : JS room lives T base old cur k z J D) (h : (baseS T base : Int) + z ≤ room) (hr : room ≤ 1048576) : D.okW k := by
  rw [S.eD]
  refine dJ_ok ?_ (by have := S.hz; omega) hr
  intro F hF
  rcases List.mem_append.1 hF with hF | hF
  · rw [(S.hold F hF).1]; simp
  · cases hc : cur with
    | none => rw [hc] at hF; simp at hF
    | some G =>
      rw [hc] at hF
      simp at hF
      subst hF
      obtain ⟨w, h1, _, _, h4⟩ := S.hcur F hc
      rw [h1, List.length_map]; exact h4
theorem JS.done (S : JS room lives T base old cur k z J D) : doneF J D = false := by
  rw [S.eD, S.eJ]; simp [doneF, dJ]
theorem cur_len (old : List FileF) (cur : Option FileF) : old.length ≤ (old ++ cur.toList).length ∧ (old ++ cur.toList).length ≤ old.length + 1 := by
  cases cur <;> simp
/-- A frame more. -/
def curAdd (cur : Option FileF) (b : List UInt8) : FileF := writeF (cur.getD {}) (frameF b)
theorem JS.append (S : JS room lives T base old cur k z J D) (b : List UInt8) (hb : b.length ≤ 16384) (hr : (baseS T base : Int) + z + 20 + b.length ≤ room) :
    appendF D (nameF T old.length) (frameF b) = (dJ room lives T base (old ++ (some (curAdd cur b)).toList), 0) ∧
    JS room lives T base old (some (curAdd cur b)) (k + 1) (z + 20 + b.length) { J with written := true, recs := J.recs ++ [b] } (dJ room lives T base (old ++ (some (curAdd cur b)).toList)) := by
  have hz := S.hz
  have hc := cur_len old cur
  have hfr := frameF_len b
  have ho := S.ho
  have hT := S.hT
  have ha := dJ_append (room := room) (lives := lives) (T := T) (base := base) (fs := old ++ cur.toList) (by omega) (q := old.length) (by omega) (by omega) (b := frameF b) hc.1 (by omega)
  have e1 : (if old.length < (old ++ cur.toList).length then (old ++ cur.toList).set old.length (writeF ((old ++ cur.toList).getD old.length {}) (frameF b)) else old ++ cur.toList ++ [⟨[], [frameF b]⟩]) = old ++ (some (curAdd cur b)).toList := by
    cases cur with
    | none => simp [curAdd, writeF]
    | some F => simp [curAdd, List.getD]
  rw [e1] at ha
  have hcu : ∃ w : List (List UInt8), (cur.getD {}).writes = w.map frameF ∧ (parse (cur.getD {}).safe).2 = true ∧ (∀ b ∈ w, b.length < 4294967296) ∧ w.length ≤ k ∧ recsOf (old ++ cur.toList) = recsOf old ++ ((parse (cur.getD {}).safe).1 ++ w) := by
    cases hcc : cur with
    | none => exact ⟨[], rfl, rfl, by simp, by simp, by simp [parse_nil]⟩
    | some F =>
      obtain ⟨w, h1, h2, h3, h4⟩ := S.hcur F hcc
      refine ⟨w, h1, h2, h3, h4, ?_⟩
      show recsOf (old ++ [F]) = _
      rw [recs_app, recs_one, whole_all h1 h2 h3]; rfl
  obtain ⟨w, h1, h2, h3, h4, h5⟩ := hcu
  have hw' : (curAdd cur b).writes = (w ++ [b]).map frameF := by simp [curAdd, writeF, h1]
  have hs' : (curAdd cur b).safe = (cur.getD {}).safe := rfl
  have h3' : ∀ x ∈ w ++ [b], x.length < 4294967296 := by
    intro x hx
    rcases List.mem_append.1 hx with hx | hx
    · exact h3 x hx
    · rw [List.mem_singleton] at hx; subst hx; omega
  refine ⟨by rw [S.eD]; exact ha, rfl, ?_, S.hT, S.hb, S.hbl, S.ho, S.hold, ?_, ?_⟩
  · have e := S.eJ
    subst e
    simp only [Option.isSome_some, JF.mk.injEq, true_and, and_true]
    show recsOf (old ++ cur.toList) ++ [b] = recsOf (old ++ [curAdd cur b])
    rw [h5, recs_app, recs_one, whole_all hw' (by rw [hs']; exact h2) h3', hs', List.append_assoc, List.append_assoc]
  · intro F hF
    simp only [Option.some.injEq] at hF
    subst hF
    exact ⟨w ++ [b], hw', by rw [hs']; exact h2, h3', by simp; omega⟩
  · have : ((old ++ (some (curAdd cur b)).toList).map FileF.size).sum = ((old ++ cur.toList).map FileF.size).sum + (20 + b.length) := by
      have : (curAdd cur b).size = (cur.getD {}).size + (20 + b.length) := by rw [curAdd, write_size, hfr]
      cases cur with
      | none => simp [this]; simp [FileF.size, FileF.all]
      | some F => simp [this]; omega
    omega
theorem JS.add1 (S : JS room lives T base old cur k z J D) (b : List UInt8) (hb : b.length ≤ 16384) (hr : (baseS T base : Int) + z + 20 + b.length ≤ room) :
    addF J D [b] = ({ J with written := true, recs := J.recs ++ [b] }, dJ room lives T base (old ++ (some (curAdd cur b)).toList), 0) := by
  obtain ⟨h1, -⟩ := S.append b hb hr
  have en : nameF J.turn J.part = nameF T old.length := by rw [S.eJ]
  rw [Go.Bb.add1 S.done hb (by rw [en, h1]), en, h1]
theorem JS.sync (S : JS room lives T base old cur k z J D) : (syncJ J D).2 = 0 ∧ ∃ cur', JS room lives T base old cur' k z J (syncJ J D).1 ∧ safeN old cur' = J.recs.length := by
  have hc := cur_len old cur
  have ho := S.ho
  have hT := S.hT
  have S0 := S
  cases hcc : cur with
  | none =>
    have e : syncJ J D = (D, 0) := by
      unfold syncJ
      rw [S.done, if_neg (by simp), if_neg (by rw [S.eJ, hcc]; simp)]
    rw [e]
    refine ⟨rfl, none, by rw [← hcc]; exact S, ?_⟩
    rw [S.eJ, hcc]
    simp [safeN]
  | some F =>
    obtain ⟨w, h1, h2, h3, h4⟩ := S.hcur F hcc
    have hall := whole_all h1 h2 h3
    have hlt : old.length < (old ++ [F]).length := by simp
    have e : syncJ J D = (dJ room lives T base (old ++ [F.sync]), 0) := by
      unfold syncJ
      rw [S.done, if_neg (by simp), if_pos (by rw [S.eJ, hcc]; rfl)]
      have en : nameF J.turn J.part = nameF T old.length := by rw [S.eJ]
      rw [en, S.eD, hcc]
      show syncF (dJ room lives T base (old ++ [F])) _ = _
      rw [dJ_sync (by omega) (by omega) (by simp; omega) hlt]
      have : (old ++ [F])[old.length]'hlt = F := by simp
      rw [this, List.set_append_right _ _ (Nat.le_refl _), Nat.sub_self, List.set_cons_zero]
    rw [e]
    have hsa : F.sync.all = F.all := by simp [FileF.sync, FileF.all]
    refine ⟨rfl, some F.sync, ⟨rfl, ?_, S.hT, S.hb, S.hbl, S.ho, S.hold, ?_, ?_⟩, ?_⟩
    · rw [S.eJ, hcc]
      simp only [Option.isSome_some, JF.mk.injEq, true_and, and_true]
      show recsOf (old ++ [F]) = recsOf (old ++ [F.sync])
      rw [recs_app, recs_app, recs_one, recs_one, hsa]
    · intro G hG
      simp only [Option.some.injEq] at hG
      subst hG
      refine ⟨[], rfl, ?_, by simp, by simp⟩
      show (parse F.all).2 = true
      rw [hall]
    · have := S.hz
      rw [hcc] at this
      have : F.sync.size = F.size := by simp [FileF.size, hsa]
      simp [this] at *
      omega
    · rw [S.eJ, hcc]
      show (recsOf old).length + (parse F.all).1.length = (recsOf (old ++ [F])).length
      rw [recs_app, recs_one, List.length_append]
/-- A fall, and opened anew. -/
theorem JS.reopen (S : JS room lives T base old cur k z J D) (ho : old.length ≤ 57) (keep : U64) (torn : Int) :
    ∃ J' old' cur' n, openF (onF (crashF D keep torn)) = (some J', dJ room (lives + 1) T base (old' ++ cur'.toList), 0) ∧ JS room (lives + 1) T base old' cur' 0 z J' (dJ room (lives + 1) T base (old' ++ cur'.toList)) ∧
      safeN old cur ≤ n ∧ n ≤ J.recs.length ∧ J'.recs = J.recs.take n ∧ safeN old' cur' = n ∧ old'.length ≤ old.length + 1 ∧
      (readBaseF { lives := lives + 1 } (onF (crashF D keep torn))).1.turn = T ∧ onF (crashF D keep torn) = dJ room (lives + 1) T base (old' ++ cur'.toList) := by
  have hT := S.hT
  have hco : old.map (fun F => F.crash keep torn) = old := by
    conv => rhs; rw [← List.map_id old]
    apply List.map_congr_left
    intro F hF
    exact crash_old (S.hold F hF).1 keep torn
  have hso : old.map FileF.sync = old := by
    conv => rhs; rw [← List.map_id old]
    apply List.map_congr_left
    intro F hF
    exact sync_old (S.hold F hF).1
  have hz := S.hz
  cases hcc : cur with
  | none =>
    rw [hcc] at hz
    have eD : onF (crashF D keep torn) = dJ room (lives + 1) T base (old ++ (none : Option FileF).toList) := by
      rw [S.eD, hcc, dJ_crash]
      simp [hco]
    have eo := open_dJ (room := room) (lives := lives + 1) (base := base) (fs := old) (T := T) (by omega) S.hb S.hbl (by omega)
    have er := readBase_dJ (room := room) (lives := lives + 1) (base := base) (fs := old) (T := T) (by omega) S.hb S.hbl
    rw [hso] at eo
    have eJ := S.eJ
    rw [hcc] at eJ
    refine ⟨_, old, none, (recsOf old).length, by rw [eD]; simpa using eo, ?_, by simp [safeN], by rw [eJ]; simp, by rw [eJ]; simp, by simp [safeN], by omega, by rw [eD]; simp [er], eD⟩
    refine ⟨rfl, ?_, S.hT, S.hb, S.hbl, by omega, S.hold, (fun F hF => by cases hF), hz⟩
    rw [lastP_old S.hold]
    simp
  | some F =>
    rw [hcc] at hz
    obtain ⟨w, h1, h2, h3, h4⟩ := S.hcur F hcc
    have eF : F = ⟨F.safe, w.map frameF⟩ := by rw [← h1]
    obtain ⟨X, m, fl, hX, hm, hp, hxl⟩ := crash_parse (S := F.safe) (w := w) h2 h3 keep torn
    rw [← eF] at hX
    have eD : onF (crashF D keep torn) = dJ room (lives + 1) T base (old ++ [⟨X, []⟩]) := by
      rw [S.eD, hcc, dJ_crash]
      simp [hco, hX]
    have eo := open_dJ (room := room) (lives := lives + 1) (base := base) (fs := old ++ [⟨X, []⟩]) (T := T) (by omega) S.hb S.hbl (by simp; omega)
    have er := readBase_dJ (room := room) (lives := lives + 1) (base := base) (fs := old ++ [⟨X, []⟩]) (T := T) (by omega) S.hb S.hbl
    have hsx : FileF.sync ⟨X, []⟩ = ⟨X, []⟩ := sync_old rfl
    have hax : FileF.all ⟨X, []⟩ = X := by simp [FileF.all]
    rw [List.map_append, hso, List.map_cons, List.map_nil, hsx, lastP_app, hax, hp, Nat.zero_add] at eo
    have hall := whole_all h1 h2 h3
    have hrecs : J.recs = recsOf old ++ ((parse F.safe).1 ++ w) := by
      rw [S.eJ, hcc]
      show recsOf (old ++ [F]) = _
      rw [recs_app, recs_one, hall]
    have hrx : recsOf (old ++ [⟨X, []⟩]) = J.recs.take ((recsOf old).length + (parse F.safe).1.length + m) := by
      have hA : (recsOf old).length + (parse F.safe).1.length = (recsOf old ++ (parse F.safe).1).length := by simp
      rw [recs_app, recs_one, hax, hp, hrecs, hA, ← List.append_assoc (recsOf old) _ w, List.take_length_add_append, List.append_assoc]
    have hsz : X.length ≤ F.size := by
      have : F.size = F.safe.length + (w.flatMap frameF).length := by
        rw [FileF.size, FileF.all, h1, List.length_append]; rfl
      omega
    have hz' : ((old ++ [(⟨X, []⟩ : FileF)]).map FileF.size).sum ≤ z := by
      have e1 : FileF.size ⟨X, []⟩ = X.length := by simp [FileF.size, FileF.all]
      simp only [Option.toList_some, List.map_append, List.sum_append_nat, List.map_cons, List.map_nil, List.sum_cons, List.sum_nil] at hz ⊢
      omega
    have hsn : safeN old (some F) = (recsOf old).length + (parse F.safe).1.length := rfl
    have hn : (recsOf old).length + (parse F.safe).1.length + m ≤ J.recs.length := by rw [hrecs]; simp; omega
    cases fl with
    | true =>
      rw [if_pos rfl] at eo
      refine ⟨_, old, some ⟨X, []⟩, (recsOf old).length + (parse F.safe).1.length + m, by rw [eD]; exact eo, ⟨rfl, ?_, S.hT, S.hb, S.hbl, by omega, S.hold, ?_, hz'⟩, by rw [hsn]; omega, hn, hrx, ?_, by omega, by rw [eD, er], eD⟩
      · rfl
      · intro G hG
        simp only [Option.some.injEq] at hG
        subst hG
        exact ⟨[], rfl, by simp only; rw [hp], by simp, by simp⟩
      · show (recsOf old).length + (parse X).1.length = _
        rw [hp]; simp; omega
    | false =>
      rw [if_neg (by simp)] at eo
      refine ⟨_, old ++ [⟨X, []⟩], none, (recsOf old).length + (parse F.safe).1.length + m, by rw [eD]; simpa using eo, ⟨rfl, ?_, S.hT, S.hb, S.hbl, by simp; omega, ?_, (fun F hF => by cases hF), by simpa using hz'⟩, by rw [hsn]; omega, hn, hrx, ?_, by simp, by rw [eD, er], by simpa using eD⟩
      · simp
      · intro G hG
        rcases List.mem_append.1 hG with hG | hG
        · exact S.hold G hG
        · rw [List.mem_singleton] at hG; subst hG
          exact ⟨rfl, by rw [hax, hp]⟩
      · show (recsOf (old ++ [⟨X, []⟩])).length + 0 = _
        rw [recs_app, recs_one, hax, hp]; simp; omega
theorem JS.start (room : Int) : JS room 1 0 [] [] none 0 0 { lives := 1 } { room := room } := ⟨rfl, rfl, by omega, fun _ => rfl, by simp, by simp, by simp, (fun F hF => by cases hF), by simp⟩
end
end Go.Bb
/- A journal's calls, with what stays; the law JournalHoles. -/
namespace Go.Bb
set_option linter.unusedSimpArgs false
set_option linter.unusedVariables false
set_option maxRecDepth 20000
set_option maxHeartbeats 2000000

structure AtD (h1 : Heap) (κ : Pal) (H : Heap) (d : Nat) (D : DiskF) : Prop where
  B : h1.le (H.bare κ)
  R : DiskR κ H d D
structure At (h1 : Heap) (κ : Pal) (H : Heap) (d j : Nat) (J : JF) (D : DiskF) : Prop where
  A : AtD h1 κ H d D
  N : JouR κ H j d J
  ne : d ≠ j
theorem AtD.ext {cs : Col → Prop} {h1 : Heap} {κ κ' : Pal} {H H' : Heap} {d : Nat} {D : DiskF} (A : AtD h1 κ H d D) (e : Ext cs κ H κ' H') (n : ∀ c : Col, c.1 = d → ¬ cs c) : AtD h1 κ' H' d D := ⟨Heap.le_trans A.B e.bare, A.R.ext e n⟩
theorem At.ext {cs : Col → Prop} {h1 : Heap} {κ κ' : Pal} {H H' : Heap} {d j : Nat} {J : JF} {D : DiskF} (A : At h1 κ H d j J D) (e : Ext cs κ H κ' H') (n : ∀ c : Col, c.1 = d ∨ c.1 = j → ¬ cs c) : At h1 κ' H' d j J D := ⟨A.A.ext e fun c h => n c (.inl h), A.N.ext e fun c h => n c (.inr h), A.ne⟩
theorem At.le {h1 : Heap} {κ : Pal} {H H' : Heap} {d j : Nat} {J : JF} {D : DiskF} (A : At h1 κ H d j J D) (h : H.le H') : At h1 κ H' d j J D := A.ext (Ext.le (cs := fun _ => False) h) fun _ _ q => q
theorem AtD.hle {h1 : Heap} {κ : Pal} {H : Heap} {d : Nat} {D : DiskF} (A : AtD h1 κ H d D) : h1.le H := Heap.le_trans A.B (Heap.bare_le _ _)
section
variable {h1 : Heap} {κ : Pal} {H : Heap} {d j : Nat} {J : JF} {D : DiskF} {room lives : Int} {T : Nat} {base : List UInt8} {old : List FileF} {cur : Option FileF} {k z : Nat}
theorem at_crash (E : EnvT tab) (A : AtD h1 κ H d D) (ok : D.ok) (keep : U64) (torn : Int) : ACallN E.toEnv n_disk_Disk_Crash [ptrV d, .int .u64 keep.toNat, .int .i64 torn] H fun v H' => ∃ κ', AtD h1 κ' H' d (crashF D keep torn) := by
  refine (disk_Crash_c E A.R ok keep torn).mono ?_
  rintro v H' ⟨κ', e, R⟩
  exact ⟨κ', Heap.le_trans A.B e.bare, R⟩
theorem at_on (E : EnvT tab) (A : AtD h1 κ H d D) (hl : -9000000000000000000 ≤ D.lives) (hl2 : D.lives ≤ 9000000000000000000) : ACallN E.toEnv n_disk_Disk_On [ptrV d] H fun v H' => AtD h1 κ H' d (onF D) := by
  refine (disk_On_c E A.R hl hl2).mono ?_
  rintro v H' ⟨e, R⟩
  exact ⟨Heap.le_trans A.B e.bare, R⟩
theorem at_add1 (E : EnvT tab) (A : At h1 κ H d j J D) (S : JS room lives T base old cur k z J D) {v : Value} {b : List UInt8} (sA : SlL (H.bare κ) v [b]) (hb : b.length ≤ 16384) (hz : (baseS T base : Int) + z + 20 + b.length ≤ room) (hr : room ≤ 1048576) (hk : k ≤ 90000) (hn : J.recs.length ≤ 90000) :
    ACallN E.toEnv n_journal_Journal_Add [ptrV j, v] H fun r H' => r = .int .i64 0 ∧ ∃ κ' J' D', At h1 κ' H' d j J' D' ∧ JS room lives T base old (some (curAdd cur b)) (k + 1) (z + 20 + b.length) J' D' ∧ J'.recs = J.recs ++ [b] := by
  have ok := S.okW (by omega) hr
  have ht : J.turn < 64 := by rw [S.eJ]; have := S.hT; simp only; omega
  have hp : J.part < 64 := by rw [S.eJ]; have := S.ho; simp only; omega
  refine (journal_Add_c E A.N A.A.R A.ne ok ht hp [b] sA (by simp; omega) (by simp; omega)).mono ?_
  rintro r H' ⟨rfl, κ', e, N, R⟩
  have h1' := S.add1 b hb hz
  obtain ⟨-, h2'⟩ := S.append b hb hz
  rw [h1'] at N R ⊢
  exact ⟨rfl, κ', _, _, ⟨⟨Heap.le_trans A.A.B e.bare, R⟩, N, A.ne⟩, h2', rfl⟩
theorem at_sync (E : EnvT tab) (A : At h1 κ H d j J D) (S : JS room lives T base old cur k z J D) (hz : (baseS T base : Int) + z ≤ room) (hr : room ≤ 1048576) (hk : k ≤ 90000) :
    ACallN E.toEnv n_journal_Journal_Sync [ptrV j] H fun r H' => r = .int .i64 0 ∧ ∃ κ' D' cur', At h1 κ' H' d j J D' ∧ JS room lives T base old cur' k z J D' ∧ safeN old cur' = J.recs.length := by
  have ok := S.okW hz hr
  have ht : J.turn < 64 := by rw [S.eJ]; have := S.hT; simp only; omega
  have hp : J.part < 64 := by rw [S.eJ]; have := S.ho; simp only; omega
  refine (journal_Sync_c E A.N A.A.R A.ne (ok.ok (by omega)) ht hp).mono ?_
  rintro r H' ⟨rfl, κ', e, N, R⟩
  obtain ⟨h1', cur', h2', h3'⟩ := S.sync
  rw [h1']
  exact ⟨rfl, κ', _, cur', ⟨⟨Heap.le_trans A.A.B e.bare, R⟩, N, A.ne⟩, h2', h3'⟩
theorem at_reopen (E : EnvT tab) (S : JS room lives T base old cur k z J D) (ho : old.length ≤ 57) {keep : U64} {torn : Int} (A : AtD h1 κ H d (onF (crashF D keep torn))) (hz : (baseS T base : Int) + z ≤ room) (hr : room ≤ 1048576) :
    ACallN E.toEnv n_journal_Open [ptrV d] H fun r H' => ∃ j' κ' J' D' old' cur' n, r = .tuple #[ptrV j', .int .i64 0] ∧ H j' = none ∧ Ext (jdC j' d) κ H κ' H' ∧ At h1 κ' H' d j' J' D' ∧ JS room (lives + 1) T base old' cur' 0 z J' D' ∧
      safeN old cur ≤ n ∧ n ≤ J.recs.length ∧ J'.recs = J.recs.take n ∧ safeN old' cur' = n ∧ old'.length ≤ old.length + 1 := by
  obtain ⟨J', old', cur', n, e1, S', e3, e4, e5, e6, e7, e8, e9⟩ := S.reopen ho keep torn
  have ok := S'.okW hz hr
  have hl := cur_len old' cur'
  have hT := S.hT
  have lv : (onF (crashF D keep torn)).lives = lives + 1 := by rw [e9]; rfl
  refine (journal_Open_c E A.R rfl (n := 0) (by rw [e9]; exact ok) (by omega) (by rw [lv, e8]; omega) (by
    rw [lv, e8, e9]
    intro h
    exact ⟨0, by omega, dJ_other (by omega) (by omega) (by omega) (by omega) (by omega)⟩) (by
    rw [lv, e8, e9]
    exact ⟨60, by omega, by rw [dJ_look (by omega) (by omega) (by omega)]; exact List.getElem?_eq_none (by omega)⟩)).mono ?_
  rintro v H' ⟨j', κ', hj, ne, e, R, hm⟩
  rw [e1] at R hm
  obtain ⟨rfl, N⟩ := hm
  exact ⟨j', κ', J', _, old', cur', n, rfl, hj, e, ⟨⟨Heap.le_trans A.B e.bare, R⟩, N, ne⟩, S', e3, e4, e5, e6, e7⟩
theorem at_start (E : EnvT tab) (room : Int) (hr1 : 64 ≤ room) (hr2 : room ≤ 1048576) (A : AtD h1 κ H d { room := room }) :
    ACallN E.toEnv n_journal_Open [ptrV d] H fun r H' => ∃ j' κ' J' D', r = .tuple #[ptrV j', .int .i64 0] ∧ At h1 κ' H' d j' J' D' ∧ JS room 1 0 [] [] none 0 0 J' D' ∧ J'.recs = [] := by
  refine (journal_Open_c E A.R rfl (n := 0) ⟨by simp, by simp [sizeF]; omega, hr2⟩ (by omega) (by rw [readBase_empty]; decide) (by rw [readBase_empty]; intro h; simp at h) (by rw [readBase_empty]; exact ⟨0, by omega, rfl⟩)).mono ?_
  rintro v h3 ⟨j, κ3, hj, ne, e3, R3, hm⟩
  rw [open_empty] at R3 hm
  obtain ⟨rfl, J3⟩ := hm
  exact ⟨j, κ3, _, _, rfl, ⟨⟨Heap.le_trans A.B e3.bare, R3⟩, J3, ne⟩, JS.start room, rfl⟩
theorem at_new (E : EnvT tab) (h : Heap) (room : Int) (hr1 : 64 ≤ room) (hr2 : room ≤ 1048576) : ACallN E.toEnv n_disk_New [.int .i64 room] h fun v H' => ∃ d κ', v = .tuple #[ptrV d, .int .i64 0] ∧ AtD h κ' H' d { room := room } := by
  refine (disk_New_c E (fun _ => none) h room).mono ?_
  rintro v h2 ⟨-, -, hN⟩
  obtain ⟨d, κ2, rfl, -, e2, R2⟩ := hN ⟨hr1, hr2⟩
  exact ⟨d, κ2, rfl, fun b x q => Heap.bare_some.2 (e2.plain rfl q), R2⟩
theorem JS.lives_eq (S : JS room lives T base old cur k z J D) (keep : U64) (torn : Int) : (crashF D keep torn).lives = lives := by rw [S.eD]; rfl
/-- A row of one, new. -/
theorem At.lit (A : At h1 κ H d j J D) {b : Nat} (hb : H b = none) {wv : Value} {l : List UInt8} (s : SlB h1 wv l) : ∃ κ', At h1 κ' (H.set b (.own 0 [wv] 1)) d j J D ∧ SlL ((H.set b (.own 0 [wv] 1)).bare κ') (.slice (some ⟨b, 0, none⟩) 1 1) [l] :=
  ⟨fun i => if i = b then none else κ i, A.ext (Ext.new hb _ none) (fun _ _ q => q), lit1_bare hb A.A.B s⟩
end

theorem bandboxlaw14_JournalHoles_c (E : EnvT tab) (W : World) {v0 v1 v2 v3 v4 : Value} (s0 : Shp.ok W (.slice 1 (.slice 1 (.int .u8))) v0) (s1 : Shp.ok W (.int .i64) v1) (s2 : Shp.ok W (.int .u64) v2) (s3 : Shp.ok W (.int .i64) v3) (s4 : Shp.ok W (.slice 1 (.int .u8)) v4) :
    ACallN E.toEnv n_bandboxlaw14_JournalHoles [v0, v1, v2, v3, v4] (roHeap W) fun v _ => v = .bool true := by
  obtain ⟨L, sL, -, -⟩ := ok_bytesL s0
  obtain ⟨sy, rfl, -, -⟩ := Shp.ok_int s1
  obtain ⟨keep, rfl⟩ : ∃ keep : U64, v2 = .int .u64 keep.toNat := by
    obtain ⟨n, rfl, h1, h2⟩ := Shp.ok_int s2
    simp [IntKind.min, IntKind.max, IntKind.signed, IntKind.bits] at h1 h2
    refine ⟨BitVec.ofNat 64 n.toNat, ?_⟩
    congr 1
    rw [BitVec.toNat_ofNat]; omega
  obtain ⟨torn, rfl, -, -⟩ := Shp.ok_int s3
  obtain ⟨more, sm, -⟩ := ok_bytes s4
  obtain ⟨Lb, Lc, rfl⟩ := sL.shape
  obtain ⟨mb, mc, rfl⟩ := Sl.shape sm
  generalize roHeap W = h at sL sm
  refine acall h_bandboxlaw14_JournalHoles ir_bandboxlaw14_JournalHoles rfl rfl (wpA_sound ?_)
  unfold ir_bandboxlaw14_JournalHoles
  simp -implicitDefEqProofs only [zB1,zB2,zB3,zB4,zB5,zB6,zB7,zB8,zB9,zB10,zB11,y00,y01,y02,y03,y04,y05,y06,y07,y08,y09,y0a,y0b,y0c,y0d,y0e,y0f,y0g,y0h,y0i,y0j,y0k,y0l,y0m,y0n,y0o,y0p,y0q,y0r,y0s,y0t,y0u,y0v,y0w,y0x,y0y,y0z,y10,y11,y12,y13,y14,y15,y16,y17,y18,y19,y1a,y1b,y1c,y1d,y1e,y1f,y1g,y1h,y1i,y1j,y1k,y1l,y1m,y1n,y1o,y1p,y1q,y1r,retO,retL,retV,z6i,allV,allP,z6j,z6m,z6n,z6t,z6u,z6v,binV,eqV,unV,oOpt,reduceIte,reduceCtorEq,Nat.reduceEqDiff,Nat.reduceAdd,Nat.reduceMul,Nat.reduceLT,Nat.reduceSub,Int.reduceLT,Int.reduceLE,Int.reduceEq,Int.reduceNe,Int.reduceSub,Int.reduceAdd,Int.reduceMul,Int.reduceBEq,Int.reduceBNe,Int.reduceGT,Int.reduceGE,Nat.reduceGT,Int.reduceToNat,Int.reduceNeg,Nat.reduceLeDiff,Nat.reduceBEq,Nat.reduceBneDiff,Value.cells]
  refine (law14_awake_c E h).mono ?_
  rintro v h1 ⟨rfl, le1⟩
  replace sL := sL.le le1
  replace sm := sm.le le1
  clear le1
  simp -implicitDefEqProofs only [zB1,zB2,zB3,zB4,zB5,zB6,zB7,zB8,zB9,zB10,zB11,y00,y01,y02,y03,y04,y05,y06,y07,y08,y09,y0a,y0b,y0c,y0d,y0e,y0f,y0g,y0h,y0i,y0j,y0k,y0l,y0m,y0n,y0o,y0p,y0q,y0r,y0s,y0t,y0u,y0v,y0w,y0x,y0y,y0z,y10,y11,y12,y13,y14,y15,y16,y17,y18,y19,y1a,y1b,y1c,y1d,y1e,y1f,y1g,y1h,y1i,y1j,y1k,y1l,y1m,y1n,y1o,y1p,y1q,y1r,retO,retL,retV,z6i,allV,allP,z6j,z6m,z6n,z6t,z6u,z6v,binV,eqV,unV,oOpt,reduceIte,reduceCtorEq,Nat.reduceEqDiff,Nat.reduceAdd,Nat.reduceMul,Nat.reduceLT,Nat.reduceSub,Int.reduceLT,Int.reduceLE,Int.reduceEq,Int.reduceNe,Int.reduceSub,Int.reduceAdd,Int.reduceMul,Int.reduceBEq,Int.reduceBNe,Int.reduceGT,Int.reduceGE,Nat.reduceGT,Int.reduceToNat,Int.reduceNeg,Nat.reduceLeDiff,Nat.reduceBEq,Nat.reduceBneDiff,Value.cells]
  unfold ir_bandboxlaw14_JournalHoles_23
  by_cases g0 : (30 : Int) < L.length
  · simp -implicitDefEqProofs only [zB1,zB2,zB3,zB4,zB5,zB6,zB7,zB8,zB9,zB10,zB11,y00,y01,y02,y03,y04,y05,y06,y07,y08,y09,y0a,y0b,y0c,y0d,y0e,y0f,y0g,y0h,y0i,y0j,y0k,y0l,y0m,y0n,y0o,y0p,y0q,y0r,y0s,y0t,y0u,y0v,y0w,y0x,y0y,y0z,y10,y11,y12,y13,y14,y15,y16,y17,y18,y19,y1a,y1b,y1c,y1d,y1e,y1f,y1g,y1h,y1i,y1j,y1k,y1l,y1m,y1n,y1o,y1p,y1q,y1r,retO,retL,retV,z6i,allV,allP,z6j,z6m,z6n,z6t,z6u,z6v,binV,eqV,unV,oOpt,reduceIte,reduceCtorEq,Nat.reduceEqDiff,Nat.reduceAdd,Nat.reduceMul,Nat.reduceLT,Nat.reduceSub,Int.reduceLT,Int.reduceLE,Int.reduceEq,Int.reduceNe,Int.reduceSub,Int.reduceAdd,Int.reduceMul,Int.reduceBEq,Int.reduceBNe,Int.reduceGT,Int.reduceGE,Nat.reduceGT,Int.reduceToNat,Int.reduceNeg,Nat.reduceLeDiff,Nat.reduceBEq,Nat.reduceBneDiff,Value.cells, g0]
  by_cases g1 : sy < 0
  · simp -implicitDefEqProofs only [zB1,zB2,zB3,zB4,zB5,zB6,zB7,zB8,zB9,zB10,zB11,y00,y01,y02,y03,y04,y05,y06,y07,y08,y09,y0a,y0b,y0c,y0d,y0e,y0f,y0g,y0h,y0i,y0j,y0k,y0l,y0m,y0n,y0o,y0p,y0q,y0r,y0s,y0t,y0u,y0v,y0w,y0x,y0y,y0z,y10,y11,y12,y13,y14,y15,y16,y17,y18,y19,y1a,y1b,y1c,y1d,y1e,y1f,y1g,y1h,y1i,y1j,y1k,y1l,y1m,y1n,y1o,y1p,y1q,y1r,retO,retL,retV,z6i,allV,allP,z6j,z6m,z6n,z6t,z6u,z6v,binV,eqV,unV,oOpt,reduceIte,reduceCtorEq,Nat.reduceEqDiff,Nat.reduceAdd,Nat.reduceMul,Nat.reduceLT,Nat.reduceSub,Int.reduceLT,Int.reduceLE,Int.reduceEq,Int.reduceNe,Int.reduceSub,Int.reduceAdd,Int.reduceMul,Int.reduceBEq,Int.reduceBNe,Int.reduceGT,Int.reduceGE,Nat.reduceGT,Int.reduceToNat,Int.reduceNeg,Nat.reduceLeDiff,Nat.reduceBEq,Nat.reduceBneDiff,Value.cells, g0, g1]
  by_cases g2 : (L.length : Int) < sy
  · simp -implicitDefEqProofs only [zB1,zB2,zB3,zB4,zB5,zB6,zB7,zB8,zB9,zB10,zB11,y00,y01,y02,y03,y04,y05,y06,y07,y08,y09,y0a,y0b,y0c,y0d,y0e,y0f,y0g,y0h,y0i,y0j,y0k,y0l,y0m,y0n,y0o,y0p,y0q,y0r,y0s,y0t,y0u,y0v,y0w,y0x,y0y,y0z,y10,y11,y12,y13,y14,y15,y16,y17,y18,y19,y1a,y1b,y1c,y1d,y1e,y1f,y1g,y1h,y1i,y1j,y1k,y1l,y1m,y1n,y1o,y1p,y1q,y1r,retO,retL,retV,z6i,allV,allP,z6j,z6m,z6n,z6t,z6u,z6v,binV,eqV,unV,oOpt,reduceIte,reduceCtorEq,Nat.reduceEqDiff,Nat.reduceAdd,Nat.reduceMul,Nat.reduceLT,Nat.reduceSub,Int.reduceLT,Int.reduceLE,Int.reduceEq,Int.reduceNe,Int.reduceSub,Int.reduceAdd,Int.reduceMul,Int.reduceBEq,Int.reduceBNe,Int.reduceGT,Int.reduceGE,Nat.reduceGT,Int.reduceToNat,Int.reduceNeg,Nat.reduceLeDiff,Nat.reduceBEq,Nat.reduceBneDiff,Value.cells, g0, g1, g2]
  by_cases g3 : (200 : Int) < more.length
  · simp -implicitDefEqProofs only [zB1,zB2,zB3,zB4,zB5,zB6,zB7,zB8,zB9,zB10,zB11,y00,y01,y02,y03,y04,y05,y06,y07,y08,y09,y0a,y0b,y0c,y0d,y0e,y0f,y0g,y0h,y0i,y0j,y0k,y0l,y0m,y0n,y0o,y0p,y0q,y0r,y0s,y0t,y0u,y0v,y0w,y0x,y0y,y0z,y10,y11,y12,y13,y14,y15,y16,y17,y18,y19,y1a,y1b,y1c,y1d,y1e,y1f,y1g,y1h,y1i,y1j,y1k,y1l,y1m,y1n,y1o,y1p,y1q,y1r,retO,retL,retV,z6i,allV,allP,z6j,z6m,z6n,z6t,z6u,z6v,binV,eqV,unV,oOpt,reduceIte,reduceCtorEq,Nat.reduceEqDiff,Nat.reduceAdd,Nat.reduceMul,Nat.reduceLT,Nat.reduceSub,Int.reduceLT,Int.reduceLE,Int.reduceEq,Int.reduceNe,Int.reduceSub,Int.reduceAdd,Int.reduceMul,Int.reduceBEq,Int.reduceBNe,Int.reduceGT,Int.reduceGE,Nat.reduceGT,Int.reduceToNat,Int.reduceNeg,Nat.reduceLeDiff,Nat.reduceBEq,Nat.reduceBneDiff,Value.cells, g0, g1, g2, g3]
  simp -implicitDefEqProofs only [zB1,zB2,zB3,zB4,zB5,zB6,zB7,zB8,zB9,zB10,zB11,y00,y01,y02,y03,y04,y05,y06,y07,y08,y09,y0a,y0b,y0c,y0d,y0e,y0f,y0g,y0h,y0i,y0j,y0k,y0l,y0m,y0n,y0o,y0p,y0q,y0r,y0s,y0t,y0u,y0v,y0w,y0x,y0y,y0z,y10,y11,y12,y13,y14,y15,y16,y17,y18,y19,y1a,y1b,y1c,y1d,y1e,y1f,y1g,y1h,y1i,y1j,y1k,y1l,y1m,y1n,y1o,y1p,y1q,y1r,retO,retL,retV,z6i,allV,allP,z6j,z6m,z6n,z6t,z6u,z6v,binV,eqV,unV,oOpt,reduceIte,reduceCtorEq,Nat.reduceEqDiff,Nat.reduceAdd,Nat.reduceMul,Nat.reduceLT,Nat.reduceSub,Int.reduceLT,Int.reduceLE,Int.reduceEq,Int.reduceNe,Int.reduceSub,Int.reduceAdd,Int.reduceMul,Int.reduceBEq,Int.reduceBNe,Int.reduceGT,Int.reduceGE,Nat.reduceGT,Int.reduceToNat,Int.reduceNeg,Nat.reduceLeDiff,Nat.reduceBEq,Nat.reduceBneDiff,Value.cells, g0, g1, g2, g3]
  obtain ⟨s, rfl⟩ : ∃ s : Nat, sy = s := ⟨sy.toNat, by omega⟩
  unfold ir_bandboxlaw14_JournalHoles_42
  simp -implicitDefEqProofs only [zB1,zB2,zB3,zB4,zB5,zB6,zB7,zB8,zB9,zB10,zB11,y00,y01,y02,y03,y04,y05,y06,y07,y08,y09,y0a,y0b,y0c,y0d,y0e,y0f,y0g,y0h,y0i,y0j,y0k,y0l,y0m,y0n,y0o,y0p,y0q,y0r,y0s,y0t,y0u,y0v,y0w,y0x,y0y,y0z,y10,y11,y12,y13,y14,y15,y16,y17,y18,y19,y1a,y1b,y1c,y1d,y1e,y1f,y1g,y1h,y1i,y1j,y1k,y1l,y1m,y1n,y1o,y1p,y1q,y1r,retO,retL,retV,z6i,allV,allP,z6j,z6m,z6n,z6t,z6u,z6v,binV,eqV,unV,oOpt,reduceIte,reduceCtorEq,Nat.reduceEqDiff,Nat.reduceAdd,Nat.reduceMul,Nat.reduceLT,Nat.reduceSub,Int.reduceLT,Int.reduceLE,Int.reduceEq,Int.reduceNe,Int.reduceSub,Int.reduceAdd,Int.reduceMul,Int.reduceBEq,Int.reduceBNe,Int.reduceGT,Int.reduceGE,Nat.reduceGT,Int.reduceToNat,Int.reduceNeg,Nat.reduceLeDiff,Nat.reduceBEq,Nat.reduceBneDiff,Value.cells]
  refine (at_new E h1 262144 (by omega) (by omega)).mono ?_
  rintro v h2 ⟨d, κ2, rfl, A2⟩
  simp -implicitDefEqProofs only [zB1,zB2,zB3,zB4,zB5,zB6,zB7,zB8,zB9,zB10,zB11,y00,y01,y02,y03,y04,y05,y06,y07,y08,y09,y0a,y0b,y0c,y0d,y0e,y0f,y0g,y0h,y0i,y0j,y0k,y0l,y0m,y0n,y0o,y0p,y0q,y0r,y0s,y0t,y0u,y0v,y0w,y0x,y0y,y0z,y10,y11,y12,y13,y14,y15,y16,y17,y18,y19,y1a,y1b,y1c,y1d,y1e,y1f,y1g,y1h,y1i,y1j,y1k,y1l,y1m,y1n,y1o,y1p,y1q,y1r,retO,retL,retV,z6i,allV,allP,z6j,z6m,z6n,z6t,z6u,z6v,binV,eqV,unV,oOpt,reduceIte,reduceCtorEq,Nat.reduceEqDiff,Nat.reduceAdd,Nat.reduceMul,Nat.reduceLT,Nat.reduceSub,Int.reduceLT,Int.reduceLE,Int.reduceEq,Int.reduceNe,Int.reduceSub,Int.reduceAdd,Int.reduceMul,Int.reduceBEq,Int.reduceBNe,Int.reduceGT,Int.reduceGE,Nat.reduceGT,Int.reduceToNat,Int.reduceNeg,Nat.reduceLeDiff,Nat.reduceBEq,Nat.reduceBneDiff,Value.cells]
  refine (at_start E 262144 (by omega) (by omega) A2).mono ?_
  rintro v h3 ⟨j, κ3, J3, D3, rfl, A3, S3, hr3⟩
  simp -implicitDefEqProofs only [zB1,zB2,zB3,zB4,zB5,zB6,zB7,zB8,zB9,zB10,zB11,y00,y01,y02,y03,y04,y05,y06,y07,y08,y09,y0a,y0b,y0c,y0d,y0e,y0f,y0g,y0h,y0i,y0j,y0k,y0l,y0m,y0n,y0o,y0p,y0q,y0r,y0s,y0t,y0u,y0v,y0w,y0x,y0y,y0z,y10,y11,y12,y13,y14,y15,y16,y17,y18,y19,y1a,y1b,y1c,y1d,y1e,y1f,y1g,y1h,y1i,y1j,y1k,y1l,y1m,y1n,y1o,y1p,y1q,y1r,retO,retL,retV,z6i,allV,allP,z6j,z6m,z6n,z6t,z6u,z6v,binV,eqV,unV,oOpt,reduceIte,reduceCtorEq,Nat.reduceEqDiff,Nat.reduceAdd,Nat.reduceMul,Nat.reduceLT,Nat.reduceSub,Int.reduceLT,Int.reduceLE,Int.reduceEq,Int.reduceNe,Int.reduceSub,Int.reduceAdd,Int.reduceMul,Int.reduceBEq,Int.reduceBNe,Int.reduceGT,Int.reduceGE,Nat.reduceGT,Int.reduceToNat,Int.reduceNeg,Nat.reduceLeDiff,Nat.reduceBEq,Nat.reduceBneDiff,Value.cells]
  unfold ir_bandboxlaw14_JournalHoles_15
  simp -implicitDefEqProofs only [zB1,zB2,zB3,zB4,zB5,zB6,zB7,zB8,zB9,zB10,zB11,y00,y01,y02,y03,y04,y05,y06,y07,y08,y09,y0a,y0b,y0c,y0d,y0e,y0f,y0g,y0h,y0i,y0j,y0k,y0l,y0m,y0n,y0o,y0p,y0q,y0r,y0s,y0t,y0u,y0v,y0w,y0x,y0y,y0z,y10,y11,y12,y13,y14,y15,y16,y17,y18,y19,y1a,y1b,y1c,y1d,y1e,y1f,y1g,y1h,y1i,y1j,y1k,y1l,y1m,y1n,y1o,y1p,y1q,y1r,retO,retL,retV,z6i,allV,allP,z6j,z6m,z6n,z6t,z6u,z6v,binV,eqV,unV,oOpt,reduceIte,reduceCtorEq,Nat.reduceEqDiff,Nat.reduceAdd,Nat.reduceMul,Nat.reduceLT,Nat.reduceSub,Int.reduceLT,Int.reduceLE,Int.reduceEq,Int.reduceNe,Int.reduceSub,Int.reduceAdd,Int.reduceMul,Int.reduceBEq,Int.reduceBNe,Int.reduceGT,Int.reduceGE,Nat.reduceGT,Int.reduceToNat,Int.reduceNeg,Nat.reduceLeDiff,Nat.reduceBEq,Nat.reduceBneDiff,Value.cells]
  refine wp_loop' (fun m t H => ∃ (i : Nat) (κ : Pal) (J : JF) (D : DiskF) (cur : Option FileF), t = tl [(0, .slice Lb L.length Lc), (1, .int .i64 s), (2, .int .u64 keep.toNat), (3, .int .i64 torn), (4, .slice mb more.length mc), (11, ptrV d), (13, ptrV j), (15, .int .i64 i)] ∧ i ≤ L.length ∧ m = L.length - i ∧
      At h1 κ H d j J D ∧ JS 262144 1 0 [] [] cur i (220 * i) J D ∧ J.recs = L.take i ∧ (s ≤ i → s ≤ safeN [] cur) ∧ ∀ b ∈ L.take i, b.length ≤ 200) L.length
    ⟨0, κ3, J3, D3, none, rfl, by omega, by omega, A3, S3, by simpa using hr3, fun h => by omega, by simp⟩ ?_
  rintro m t H ⟨i, κ, J, D, cur, rfl, hi, rfl, A, S, hrec, hs, h200⟩
  have lT : (L.take i).length = i := by rw [List.length_take]; omega
  have hbs : baseS 0 [] = 0 := rfl
  by_cases hlt : i < L.length
  · have hi1 : (i : Int) < L.length := by omega
    have hi2 : (0 : Int) ≤ i := by omega
    have w1 : IntKind.i64.wrap ((i : Int) + 1) = ((i + 1 : Nat) : Int) := wrapN (by omega)
    obtain ⟨b, o2, bi, ci, rfl, si, ciH⟩ := sL.at' i hlt
    have c1 := ciH H A.A.hle
    have et : L.take (i + 1) = L.take i ++ [L[i]] := List.take_succ_eq_append_getElem hlt
    by_cases g4 : (200 : Int) < L[i].length
    · simp -implicitDefEqProofs only [zB1,zB2,zB3,zB4,zB5,zB6,zB7,zB8,zB9,zB10,zB11,y00,y01,y02,y03,y04,y05,y06,y07,y08,y09,y0a,y0b,y0c,y0d,y0e,y0f,y0g,y0h,y0i,y0j,y0k,y0l,y0m,y0n,y0o,y0p,y0q,y0r,y0s,y0t,y0u,y0v,y0w,y0x,y0y,y0z,y10,y11,y12,y13,y14,y15,y16,y17,y18,y19,y1a,y1b,y1c,y1d,y1e,y1f,y1g,y1h,y1i,y1j,y1k,y1l,y1m,y1n,y1o,y1p,y1q,y1r,retO,retL,retV,z6i,allV,allP,z6j,z6m,z6n,z6t,z6u,z6v,binV,eqV,unV,oOpt,reduceIte,reduceCtorEq,Nat.reduceEqDiff,Nat.reduceAdd,Nat.reduceMul,Nat.reduceLT,Nat.reduceSub,Int.reduceLT,Int.reduceLE,Int.reduceEq,Int.reduceNe,Int.reduceSub,Int.reduceAdd,Int.reduceMul,Int.reduceBEq,Int.reduceBNe,Int.reduceGT,Int.reduceGE,Nat.reduceGT,Int.reduceToNat,Int.reduceNeg,Nat.reduceLeDiff,Nat.reduceBEq,Nat.reduceBneDiff,Value.cells, hi1, hi2, Int.toNat_natCast, c1, g4]
    simp -implicitDefEqProofs only [zB1,zB2,zB3,zB4,zB5,zB6,zB7,zB8,zB9,zB10,zB11,y00,y01,y02,y03,y04,y05,y06,y07,y08,y09,y0a,y0b,y0c,y0d,y0e,y0f,y0g,y0h,y0i,y0j,y0k,y0l,y0m,y0n,y0o,y0p,y0q,y0r,y0s,y0t,y0u,y0v,y0w,y0x,y0y,y0z,y10,y11,y12,y13,y14,y15,y16,y17,y18,y19,y1a,y1b,y1c,y1d,y1e,y1f,y1g,y1h,y1i,y1j,y1k,y1l,y1m,y1n,y1o,y1p,y1q,y1r,retO,retL,retV,z6i,allV,allP,z6j,z6m,z6n,z6t,z6u,z6v,binV,eqV,unV,oOpt,reduceIte,reduceCtorEq,Nat.reduceEqDiff,Nat.reduceAdd,Nat.reduceMul,Nat.reduceLT,Nat.reduceSub,Int.reduceLT,Int.reduceLE,Int.reduceEq,Int.reduceNe,Int.reduceSub,Int.reduceAdd,Int.reduceMul,Int.reduceBEq,Int.reduceBNe,Int.reduceGT,Int.reduceGE,Nat.reduceGT,Int.reduceToNat,Int.reduceNeg,Nat.reduceLeDiff,Nat.reduceBEq,Nat.reduceBneDiff,Value.cells, hi1, hi2, Int.toNat_natCast, c1, g4]
    unfold ir_bandboxlaw14_JournalHoles_62
    simp -implicitDefEqProofs only [zB1,zB2,zB3,zB4,zB5,zB6,zB7,zB8,zB9,zB10,zB11,y00,y01,y02,y03,y04,y05,y06,y07,y08,y09,y0a,y0b,y0c,y0d,y0e,y0f,y0g,y0h,y0i,y0j,y0k,y0l,y0m,y0n,y0o,y0p,y0q,y0r,y0s,y0t,y0u,y0v,y0w,y0x,y0y,y0z,y10,y11,y12,y13,y14,y15,y16,y17,y18,y19,y1a,y1b,y1c,y1d,y1e,y1f,y1g,y1h,y1i,y1j,y1k,y1l,y1m,y1n,y1o,y1p,y1q,y1r,retO,retL,retV,z6i,allV,allP,z6j,z6m,z6n,z6t,z6u,z6v,binV,eqV,unV,oOpt,reduceIte,reduceCtorEq,Nat.reduceEqDiff,Nat.reduceAdd,Nat.reduceMul,Nat.reduceLT,Nat.reduceSub,Int.reduceLT,Int.reduceLE,Int.reduceEq,Int.reduceNe,Int.reduceSub,Int.reduceAdd,Int.reduceMul,Int.reduceBEq,Int.reduceBNe,Int.reduceGT,Int.reduceGE,Nat.reduceGT,Int.reduceToNat,Int.reduceNeg,Nat.reduceLeDiff,Nat.reduceBEq,Nat.reduceBneDiff,Value.cells, hi1, hi2, Int.toNat_natCast, c1, List.length_replicate, List.drop_replicate, List.replicate_zero]
    intro b67 hb67
    try simp -implicitDefEqProofs only [zB1,zB2,zB3,zB4,zB5,zB6,zB7,zB8,zB9,zB10,zB11,y00,y01,y02,y03,y04,y05,y06,y07,y08,y09,y0a,y0b,y0c,y0d,y0e,y0f,y0g,y0h,y0i,y0j,y0k,y0l,y0m,y0n,y0o,y0p,y0q,y0r,y0s,y0t,y0u,y0v,y0w,y0x,y0y,y0z,y10,y11,y12,y13,y14,y15,y16,y17,y18,y19,y1a,y1b,y1c,y1d,y1e,y1f,y1g,y1h,y1i,y1j,y1k,y1l,y1m,y1n,y1o,y1p,y1q,y1r,retO,retL,retV,z6i,allV,allP,z6j,z6m,z6n,z6t,z6u,z6v,binV,eqV,unV,oOpt,reduceIte,reduceCtorEq,Nat.reduceEqDiff,Nat.reduceAdd,Nat.reduceMul,Nat.reduceLT,Nat.reduceSub,Int.reduceLT,Int.reduceLE,Int.reduceEq,Int.reduceNe,Int.reduceSub,Int.reduceAdd,Int.reduceMul,Int.reduceBEq,Int.reduceBNe,Int.reduceGT,Int.reduceGE,Nat.reduceGT,Int.reduceToNat,Int.reduceNeg,Nat.reduceLeDiff,Nat.reduceBEq,Nat.reduceBneDiff,Value.cells]
    obtain ⟨κ4, A4, sA⟩ := A.lit hb67 si
    refine (at_add1 E A4 S sA (by omega) (by rw [hbs]; omega) (by omega) (by omega) (by rw [hrec, lT]; omega)).mono ?_
    rintro r H5 ⟨rfl, κ5, J5, D5, A5, S5, hr5⟩
    have h200' : ∀ x ∈ L.take (i + 1), x.length ≤ 200 := by
      rw [et]
      intro x hx
      rcases List.mem_append.1 hx with hx | hx
      · exact h200 x hx
      · rw [List.mem_singleton] at hx; subst hx; omega
    have hr5' : J5.recs = L.take (i + 1) := by rw [hr5, hrec, et]
    have S5' : JS 262144 1 0 [] [] (some (curAdd cur L[i])) (i + 1) (220 * (i + 1)) J5 D5 := ⟨S5.eD, S5.eJ, S5.hT, S5.hb, S5.hbl, S5.ho, S5.hold, S5.hcur, by have := S5.hz; omega⟩
    by_cases g5 : i + 1 = s
    · have g5' : (((i + 1 : Nat) : Int) == (s : Int)) = true := by rw [g5]; exact beq_self_eq_true _
      simp -implicitDefEqProofs only [zB1,zB2,zB3,zB4,zB5,zB6,zB7,zB8,zB9,zB10,zB11,y00,y01,y02,y03,y04,y05,y06,y07,y08,y09,y0a,y0b,y0c,y0d,y0e,y0f,y0g,y0h,y0i,y0j,y0k,y0l,y0m,y0n,y0o,y0p,y0q,y0r,y0s,y0t,y0u,y0v,y0w,y0x,y0y,y0z,y10,y11,y12,y13,y14,y15,y16,y17,y18,y19,y1a,y1b,y1c,y1d,y1e,y1f,y1g,y1h,y1i,y1j,y1k,y1l,y1m,y1n,y1o,y1p,y1q,y1r,retO,retL,retV,z6i,allV,allP,z6j,z6m,z6n,z6t,z6u,z6v,binV,eqV,unV,oOpt,reduceIte,reduceCtorEq,Nat.reduceEqDiff,Nat.reduceAdd,Nat.reduceMul,Nat.reduceLT,Nat.reduceSub,Int.reduceLT,Int.reduceLE,Int.reduceEq,Int.reduceNe,Int.reduceSub,Int.reduceAdd,Int.reduceMul,Int.reduceBEq,Int.reduceBNe,Int.reduceGT,Int.reduceGE,Nat.reduceGT,Int.reduceToNat,Int.reduceNeg,Nat.reduceLeDiff,Nat.reduceBEq,Nat.reduceBneDiff,Value.cells, w1, g5']
      refine (at_sync E A5 S5' (by rw [hbs]; omega) (by omega) (by omega)).mono ?_
      rintro r H6 ⟨rfl, κ6, D6, cur6, A6, S6, hs6⟩
      simp -implicitDefEqProofs only [zB1,zB2,zB3,zB4,zB5,zB6,zB7,zB8,zB9,zB10,zB11,y00,y01,y02,y03,y04,y05,y06,y07,y08,y09,y0a,y0b,y0c,y0d,y0e,y0f,y0g,y0h,y0i,y0j,y0k,y0l,y0m,y0n,y0o,y0p,y0q,y0r,y0s,y0t,y0u,y0v,y0w,y0x,y0y,y0z,y10,y11,y12,y13,y14,y15,y16,y17,y18,y19,y1a,y1b,y1c,y1d,y1e,y1f,y1g,y1h,y1i,y1j,y1k,y1l,y1m,y1n,y1o,y1p,y1q,y1r,retO,retL,retV,z6i,allV,allP,z6j,z6m,z6n,z6t,z6u,z6v,binV,eqV,unV,oOpt,reduceIte,reduceCtorEq,Nat.reduceEqDiff,Nat.reduceAdd,Nat.reduceMul,Nat.reduceLT,Nat.reduceSub,Int.reduceLT,Int.reduceLE,Int.reduceEq,Int.reduceNe,Int.reduceSub,Int.reduceAdd,Int.reduceMul,Int.reduceBEq,Int.reduceBNe,Int.reduceGT,Int.reduceGE,Nat.reduceGT,Int.reduceToNat,Int.reduceNeg,Nat.reduceLeDiff,Nat.reduceBEq,Nat.reduceBneDiff,Value.cells, w1]
      refine ⟨_, ?_, i + 1, κ6, J5, D6, cur6, rfl, by omega, rfl, A6, S6, hr5', fun _ => ?_, h200'⟩
      · omega
      · rw [hs6, hr5', List.length_take]; omega
    · have g5' : (((i + 1 : Nat) : Int) == (s : Int)) = false := by simp; omega
      simp -implicitDefEqProofs only [zB1,zB2,zB3,zB4,zB5,zB6,zB7,zB8,zB9,zB10,zB11,y00,y01,y02,y03,y04,y05,y06,y07,y08,y09,y0a,y0b,y0c,y0d,y0e,y0f,y0g,y0h,y0i,y0j,y0k,y0l,y0m,y0n,y0o,y0p,y0q,y0r,y0s,y0t,y0u,y0v,y0w,y0x,y0y,y0z,y10,y11,y12,y13,y14,y15,y16,y17,y18,y19,y1a,y1b,y1c,y1d,y1e,y1f,y1g,y1h,y1i,y1j,y1k,y1l,y1m,y1n,y1o,y1p,y1q,y1r,retO,retL,retV,z6i,allV,allP,z6j,z6m,z6n,z6t,z6u,z6v,binV,eqV,unV,oOpt,reduceIte,reduceCtorEq,Nat.reduceEqDiff,Nat.reduceAdd,Nat.reduceMul,Nat.reduceLT,Nat.reduceSub,Int.reduceLT,Int.reduceLE,Int.reduceEq,Int.reduceNe,Int.reduceSub,Int.reduceAdd,Int.reduceMul,Int.reduceBEq,Int.reduceBNe,Int.reduceGT,Int.reduceGE,Nat.reduceGT,Int.reduceToNat,Int.reduceNeg,Nat.reduceLeDiff,Nat.reduceBEq,Nat.reduceBneDiff,Value.cells, w1, g5']
      refine ⟨_, ?_, i + 1, κ5, J5, D5, _, rfl, by omega, rfl, A5, S5', hr5', fun h => ?_, h200'⟩
      · omega
      · have h0 := hs (by omega)
        have : safeN [] (some (curAdd cur L[i])) = safeN [] cur := by
          unfold safeN curAdd
          cases cur with
          | none => rfl
          | some F => rfl
        rw [this]; exact h0
  have hi1 : ¬ (i : Int) < L.length := by omega
  have e0 : i = L.length := by omega
  subst e0
  rw [List.take_length] at hrec h200
  have hs0 := hs (by omega)
  simp -implicitDefEqProofs only [zB1,zB2,zB3,zB4,zB5,zB6,zB7,zB8,zB9,zB10,zB11,y00,y01,y02,y03,y04,y05,y06,y07,y08,y09,y0a,y0b,y0c,y0d,y0e,y0f,y0g,y0h,y0i,y0j,y0k,y0l,y0m,y0n,y0o,y0p,y0q,y0r,y0s,y0t,y0u,y0v,y0w,y0x,y0y,y0z,y10,y11,y12,y13,y14,y15,y16,y17,y18,y19,y1a,y1b,y1c,y1d,y1e,y1f,y1g,y1h,y1i,y1j,y1k,y1l,y1m,y1n,y1o,y1p,y1q,y1r,retO,retL,retV,z6i,allV,allP,z6j,z6m,z6n,z6t,z6u,z6v,binV,eqV,unV,oOpt,reduceIte,reduceCtorEq,Nat.reduceEqDiff,Nat.reduceAdd,Nat.reduceMul,Nat.reduceLT,Nat.reduceSub,Int.reduceLT,Int.reduceLE,Int.reduceEq,Int.reduceNe,Int.reduceSub,Int.reduceAdd,Int.reduceMul,Int.reduceBEq,Int.reduceBNe,Int.reduceGT,Int.reduceGE,Nat.reduceGT,Int.reduceToNat,Int.reduceNeg,Nat.reduceLeDiff,Nat.reduceBEq,Nat.reduceBneDiff,Value.cells, hi1]
  unfold ir_bandboxlaw14_JournalHoles_81
  simp -implicitDefEqProofs only [zB1,zB2,zB3,zB4,zB5,zB6,zB7,zB8,zB9,zB10,zB11,y00,y01,y02,y03,y04,y05,y06,y07,y08,y09,y0a,y0b,y0c,y0d,y0e,y0f,y0g,y0h,y0i,y0j,y0k,y0l,y0m,y0n,y0o,y0p,y0q,y0r,y0s,y0t,y0u,y0v,y0w,y0x,y0y,y0z,y10,y11,y12,y13,y14,y15,y16,y17,y18,y19,y1a,y1b,y1c,y1d,y1e,y1f,y1g,y1h,y1i,y1j,y1k,y1l,y1m,y1n,y1o,y1p,y1q,y1r,retO,retL,retV,z6i,allV,allP,z6j,z6m,z6n,z6t,z6u,z6v,binV,eqV,unV,oOpt,reduceIte,reduceCtorEq,Nat.reduceEqDiff,Nat.reduceAdd,Nat.reduceMul,Nat.reduceLT,Nat.reduceSub,Int.reduceLT,Int.reduceLE,Int.reduceEq,Int.reduceNe,Int.reduceSub,Int.reduceAdd,Int.reduceMul,Int.reduceBEq,Int.reduceBNe,Int.reduceGT,Int.reduceGE,Nat.reduceGT,Int.reduceToNat,Int.reduceNeg,Nat.reduceLeDiff,Nat.reduceBEq,Nat.reduceBneDiff,Value.cells]
  have okS := (S.okW (by rw [hbs]; omega) (by omega)).ok (by omega)
  refine (at_crash E A.A okS keep torn).mono ?_
  rintro v H1 ⟨κ1, A1⟩
  simp -implicitDefEqProofs only [zB1,zB2,zB3,zB4,zB5,zB6,zB7,zB8,zB9,zB10,zB11,y00,y01,y02,y03,y04,y05,y06,y07,y08,y09,y0a,y0b,y0c,y0d,y0e,y0f,y0g,y0h,y0i,y0j,y0k,y0l,y0m,y0n,y0o,y0p,y0q,y0r,y0s,y0t,y0u,y0v,y0w,y0x,y0y,y0z,y10,y11,y12,y13,y14,y15,y16,y17,y18,y19,y1a,y1b,y1c,y1d,y1e,y1f,y1g,y1h,y1i,y1j,y1k,y1l,y1m,y1n,y1o,y1p,y1q,y1r,retO,retL,retV,z6i,allV,allP,z6j,z6m,z6n,z6t,z6u,z6v,binV,eqV,unV,oOpt,reduceIte,reduceCtorEq,Nat.reduceEqDiff,Nat.reduceAdd,Nat.reduceMul,Nat.reduceLT,Nat.reduceSub,Int.reduceLT,Int.reduceLE,Int.reduceEq,Int.reduceNe,Int.reduceSub,Int.reduceAdd,Int.reduceMul,Int.reduceBEq,Int.reduceBNe,Int.reduceGT,Int.reduceGE,Nat.reduceGT,Int.reduceToNat,Int.reduceNeg,Nat.reduceLeDiff,Nat.reduceBEq,Nat.reduceBneDiff,Value.cells]
  refine (at_on E A1 (by rw [S.lives_eq]; omega) (by rw [S.lives_eq]; omega)).mono ?_
  rintro v H2 A2'
  simp -implicitDefEqProofs only [zB1,zB2,zB3,zB4,zB5,zB6,zB7,zB8,zB9,zB10,zB11,y00,y01,y02,y03,y04,y05,y06,y07,y08,y09,y0a,y0b,y0c,y0d,y0e,y0f,y0g,y0h,y0i,y0j,y0k,y0l,y0m,y0n,y0o,y0p,y0q,y0r,y0s,y0t,y0u,y0v,y0w,y0x,y0y,y0z,y10,y11,y12,y13,y14,y15,y16,y17,y18,y19,y1a,y1b,y1c,y1d,y1e,y1f,y1g,y1h,y1i,y1j,y1k,y1l,y1m,y1n,y1o,y1p,y1q,y1r,retO,retL,retV,z6i,allV,allP,z6j,z6m,z6n,z6t,z6u,z6v,binV,eqV,unV,oOpt,reduceIte,reduceCtorEq,Nat.reduceEqDiff,Nat.reduceAdd,Nat.reduceMul,Nat.reduceLT,Nat.reduceSub,Int.reduceLT,Int.reduceLE,Int.reduceEq,Int.reduceNe,Int.reduceSub,Int.reduceAdd,Int.reduceMul,Int.reduceBEq,Int.reduceBNe,Int.reduceGT,Int.reduceGE,Nat.reduceGT,Int.reduceToNat,Int.reduceNeg,Nat.reduceLeDiff,Nat.reduceBEq,Nat.reduceBneDiff,Value.cells]
  refine (at_reopen E S (by simp) A2' (by rw [hbs]; omega) (by omega)).mono ?_
  rintro v H3 ⟨j', κ3', J', D', old', cur', n, rfl, -, -, A3', S3', hn1, hn2, hn3, hn4, hn5⟩
  rw [hrec] at hn2 hn3
  have hlen : J'.recs.length = n := by rw [hn3, List.length_take]; omega
  have hJ'b : ∀ l ∈ J'.recs, l.length ≤ 1000000 := by
    intro l hl
    rw [hn3] at hl
    have := h200 l (List.mem_of_mem_take hl); omega
  simp -implicitDefEqProofs only [zB1,zB2,zB3,zB4,zB5,zB6,zB7,zB8,zB9,zB10,zB11,y00,y01,y02,y03,y04,y05,y06,y07,y08,y09,y0a,y0b,y0c,y0d,y0e,y0f,y0g,y0h,y0i,y0j,y0k,y0l,y0m,y0n,y0o,y0p,y0q,y0r,y0s,y0t,y0u,y0v,y0w,y0x,y0y,y0z,y10,y11,y12,y13,y14,y15,y16,y17,y18,y19,y1a,y1b,y1c,y1d,y1e,y1f,y1g,y1h,y1i,y1j,y1k,y1l,y1m,y1n,y1o,y1p,y1q,y1r,retO,retL,retV,z6i,allV,allP,z6j,z6m,z6n,z6t,z6u,z6v,binV,eqV,unV,oOpt,reduceIte,reduceCtorEq,Nat.reduceEqDiff,Nat.reduceAdd,Nat.reduceMul,Nat.reduceLT,Nat.reduceSub,Int.reduceLT,Int.reduceLE,Int.reduceEq,Int.reduceNe,Int.reduceSub,Int.reduceAdd,Int.reduceMul,Int.reduceBEq,Int.reduceBNe,Int.reduceGT,Int.reduceGE,Nat.reduceGT,Int.reduceToNat,Int.reduceNeg,Nat.reduceLeDiff,Nat.reduceBEq,Nat.reduceBneDiff,Value.cells]
  refine (journal_All_c E A3'.N (by omega) hJ'b).mono ?_
  rintro av H4 ⟨le4, κx, N4⟩
  have A4' := A3'.le le4
  obtain ⟨ab, ac, rfl⟩ := N4.sl.shape
  rw [hlen]
  simp -implicitDefEqProofs only [zB1,zB2,zB3,zB4,zB5,zB6,zB7,zB8,zB9,zB10,zB11,y00,y01,y02,y03,y04,y05,y06,y07,y08,y09,y0a,y0b,y0c,y0d,y0e,y0f,y0g,y0h,y0i,y0j,y0k,y0l,y0m,y0n,y0o,y0p,y0q,y0r,y0s,y0t,y0u,y0v,y0w,y0x,y0y,y0z,y10,y11,y12,y13,y14,y15,y16,y17,y18,y19,y1a,y1b,y1c,y1d,y1e,y1f,y1g,y1h,y1i,y1j,y1k,y1l,y1m,y1n,y1o,y1p,y1q,y1r,retO,retL,retV,z6i,allV,allP,z6j,z6m,z6n,z6t,z6u,z6v,binV,eqV,unV,oOpt,reduceIte,reduceCtorEq,Nat.reduceEqDiff,Nat.reduceAdd,Nat.reduceMul,Nat.reduceLT,Nat.reduceSub,Int.reduceLT,Int.reduceLE,Int.reduceEq,Int.reduceNe,Int.reduceSub,Int.reduceAdd,Int.reduceMul,Int.reduceBEq,Int.reduceBNe,Int.reduceGT,Int.reduceGE,Nat.reduceGT,Int.reduceToNat,Int.reduceNeg,Nat.reduceLeDiff,Nat.reduceBEq,Nat.reduceBneDiff,Value.cells]
  unfold ir_bandboxlaw14_JournalHoles_101
  have g6 : ¬ ((n : Int) < s) := by omega
  have g7 : ¬ ((L.length : Int) < n) := by omega
  simp -implicitDefEqProofs only [zB1,zB2,zB3,zB4,zB5,zB6,zB7,zB8,zB9,zB10,zB11,y00,y01,y02,y03,y04,y05,y06,y07,y08,y09,y0a,y0b,y0c,y0d,y0e,y0f,y0g,y0h,y0i,y0j,y0k,y0l,y0m,y0n,y0o,y0p,y0q,y0r,y0s,y0t,y0u,y0v,y0w,y0x,y0y,y0z,y10,y11,y12,y13,y14,y15,y16,y17,y18,y19,y1a,y1b,y1c,y1d,y1e,y1f,y1g,y1h,y1i,y1j,y1k,y1l,y1m,y1n,y1o,y1p,y1q,y1r,retO,retL,retV,z6i,allV,allP,z6j,z6m,z6n,z6t,z6u,z6v,binV,eqV,unV,oOpt,reduceIte,reduceCtorEq,Nat.reduceEqDiff,Nat.reduceAdd,Nat.reduceMul,Nat.reduceLT,Nat.reduceSub,Int.reduceLT,Int.reduceLE,Int.reduceEq,Int.reduceNe,Int.reduceSub,Int.reduceAdd,Int.reduceMul,Int.reduceBEq,Int.reduceBNe,Int.reduceGT,Int.reduceGE,Nat.reduceGT,Int.reduceToNat,Int.reduceNeg,Nat.reduceLeDiff,Nat.reduceBEq,Nat.reduceBneDiff,Value.cells, g6, g7]
  refine (journal_All_c E A4'.N (by omega) hJ'b).mono ?_
  rintro av2 H5 ⟨le5, κy, N5⟩
  have A5' := A4'.le le5
  have sR := N5.sl
  rw [hn3] at sR
  obtain ⟨ab2, ac2, rfl⟩ := sR.shape
  have hcap := sL.cap
  have bd : bnds L.length Lc none (some (some (.int .i64 (n : Int)))) none = some (0, n, Lc) := bnds_hi (by omega) (by omega)
  have sP := SlL.pre (sL.le A5'.A.hle) (k := n) (by omega)
  simp -implicitDefEqProofs only [zB1,zB2,zB3,zB4,zB5,zB6,zB7,zB8,zB9,zB10,zB11,y00,y01,y02,y03,y04,y05,y06,y07,y08,y09,y0a,y0b,y0c,y0d,y0e,y0f,y0g,y0h,y0i,y0j,y0k,y0l,y0m,y0n,y0o,y0p,y0q,y0r,y0s,y0t,y0u,y0v,y0w,y0x,y0y,y0z,y10,y11,y12,y13,y14,y15,y16,y17,y18,y19,y1a,y1b,y1c,y1d,y1e,y1f,y1g,y1h,y1i,y1j,y1k,y1l,y1m,y1n,y1o,y1p,y1q,y1r,retO,retL,retV,z6i,allV,allP,z6j,z6m,z6n,z6t,z6u,z6v,binV,eqV,unV,oOpt,reduceIte,reduceCtorEq,Nat.reduceEqDiff,Nat.reduceAdd,Nat.reduceMul,Nat.reduceLT,Nat.reduceSub,Int.reduceLT,Int.reduceLE,Int.reduceEq,Int.reduceNe,Int.reduceSub,Int.reduceAdd,Int.reduceMul,Int.reduceBEq,Int.reduceBNe,Int.reduceGT,Int.reduceGE,Nat.reduceGT,Int.reduceToNat,Int.reduceNeg,Nat.reduceLeDiff,Nat.reduceBEq,Nat.reduceBneDiff,Value.cells, bd, addO Lb Lc (fun a _ => addr_add0 a), Nat.sub_zero, implies_true, List.mem_cons, List.not_mem_nil, List.mem_singleton, or_false, forall_eq, forall_eq_or_imp, and_self]
  refine (law14_same_c E (L.take n) (L.take n) sR sP (by rw [List.length_take]; omega) (by rw [List.length_take]; omega)).mono ?_
  rintro r H6 ⟨rfl, rfl⟩
  simp -implicitDefEqProofs only [zB1,zB2,zB3,zB4,zB5,zB6,zB7,zB8,zB9,zB10,zB11,y00,y01,y02,y03,y04,y05,y06,y07,y08,y09,y0a,y0b,y0c,y0d,y0e,y0f,y0g,y0h,y0i,y0j,y0k,y0l,y0m,y0n,y0o,y0p,y0q,y0r,y0s,y0t,y0u,y0v,y0w,y0x,y0y,y0z,y10,y11,y12,y13,y14,y15,y16,y17,y18,y19,y1a,y1b,y1c,y1d,y1e,y1f,y1g,y1h,y1i,y1j,y1k,y1l,y1m,y1n,y1o,y1p,y1q,y1r,retO,retL,retV,z6i,allV,allP,z6j,z6m,z6n,z6t,z6u,z6v,binV,eqV,unV,oOpt,reduceIte,reduceCtorEq,Nat.reduceEqDiff,Nat.reduceAdd,Nat.reduceMul,Nat.reduceLT,Nat.reduceSub,Int.reduceLT,Int.reduceLE,Int.reduceEq,Int.reduceNe,Int.reduceSub,Int.reduceAdd,Int.reduceMul,Int.reduceBEq,Int.reduceBNe,Int.reduceGT,Int.reduceGE,Nat.reduceGT,Int.reduceToNat,Int.reduceNeg,Nat.reduceLeDiff,Nat.reduceBEq,Nat.reduceBneDiff,Value.cells]
  unfold ir_bandboxlaw14_JournalHoles_119
  simp -implicitDefEqProofs only [zB1,zB2,zB3,zB4,zB5,zB6,zB7,zB8,zB9,zB10,zB11,y00,y01,y02,y03,y04,y05,y06,y07,y08,y09,y0a,y0b,y0c,y0d,y0e,y0f,y0g,y0h,y0i,y0j,y0k,y0l,y0m,y0n,y0o,y0p,y0q,y0r,y0s,y0t,y0u,y0v,y0w,y0x,y0y,y0z,y10,y11,y12,y13,y14,y15,y16,y17,y18,y19,y1a,y1b,y1c,y1d,y1e,y1f,y1g,y1h,y1i,y1j,y1k,y1l,y1m,y1n,y1o,y1p,y1q,y1r,retO,retL,retV,z6i,allV,allP,z6j,z6m,z6n,z6t,z6u,z6v,binV,eqV,unV,oOpt,reduceIte,reduceCtorEq,Nat.reduceEqDiff,Nat.reduceAdd,Nat.reduceMul,Nat.reduceLT,Nat.reduceSub,Int.reduceLT,Int.reduceLE,Int.reduceEq,Int.reduceNe,Int.reduceSub,Int.reduceAdd,Int.reduceMul,Int.reduceBEq,Int.reduceBNe,Int.reduceGT,Int.reduceGE,Nat.reduceGT,Int.reduceToNat,Int.reduceNeg,Nat.reduceLeDiff,Nat.reduceBEq,Nat.reduceBneDiff,Value.cells, List.length_replicate, List.drop_replicate, List.replicate_zero]
  intro b121 hb121
  try simp -implicitDefEqProofs only [zB1,zB2,zB3,zB4,zB5,zB6,zB7,zB8,zB9,zB10,zB11,y00,y01,y02,y03,y04,y05,y06,y07,y08,y09,y0a,y0b,y0c,y0d,y0e,y0f,y0g,y0h,y0i,y0j,y0k,y0l,y0m,y0n,y0o,y0p,y0q,y0r,y0s,y0t,y0u,y0v,y0w,y0x,y0y,y0z,y10,y11,y12,y13,y14,y15,y16,y17,y18,y19,y1a,y1b,y1c,y1d,y1e,y1f,y1g,y1h,y1i,y1j,y1k,y1l,y1m,y1n,y1o,y1p,y1q,y1r,retO,retL,retV,z6i,allV,allP,z6j,z6m,z6n,z6t,z6u,z6v,binV,eqV,unV,oOpt,reduceIte,reduceCtorEq,Nat.reduceEqDiff,Nat.reduceAdd,Nat.reduceMul,Nat.reduceLT,Nat.reduceSub,Int.reduceLT,Int.reduceLE,Int.reduceEq,Int.reduceNe,Int.reduceSub,Int.reduceAdd,Int.reduceMul,Int.reduceBEq,Int.reduceBNe,Int.reduceGT,Int.reduceGE,Nat.reduceGT,Int.reduceToNat,Int.reduceNeg,Nat.reduceLeDiff,Nat.reduceBEq,Nat.reduceBneDiff,Value.cells]
  obtain ⟨κ7, A7, sA7⟩ := A5'.lit hb121 sm
  refine (at_add1 E A7 S3' sA7 (by omega) (by rw [hbs]; omega) (by omega) (by omega) (by omega)).mono ?_
  rintro r H8 ⟨rfl, κ8, J8, D8, A8, S8, hr8⟩
  simp -implicitDefEqProofs only [zB1,zB2,zB3,zB4,zB5,zB6,zB7,zB8,zB9,zB10,zB11,y00,y01,y02,y03,y04,y05,y06,y07,y08,y09,y0a,y0b,y0c,y0d,y0e,y0f,y0g,y0h,y0i,y0j,y0k,y0l,y0m,y0n,y0o,y0p,y0q,y0r,y0s,y0t,y0u,y0v,y0w,y0x,y0y,y0z,y10,y11,y12,y13,y14,y15,y16,y17,y18,y19,y1a,y1b,y1c,y1d,y1e,y1f,y1g,y1h,y1i,y1j,y1k,y1l,y1m,y1n,y1o,y1p,y1q,y1r,retO,retL,retV,z6i,allV,allP,z6j,z6m,z6n,z6t,z6u,z6v,binV,eqV,unV,oOpt,reduceIte,reduceCtorEq,Nat.reduceEqDiff,Nat.reduceAdd,Nat.reduceMul,Nat.reduceLT,Nat.reduceSub,Int.reduceLT,Int.reduceLE,Int.reduceEq,Int.reduceNe,Int.reduceSub,Int.reduceAdd,Int.reduceMul,Int.reduceBEq,Int.reduceBNe,Int.reduceGT,Int.reduceGE,Nat.reduceGT,Int.reduceToNat,Int.reduceNeg,Nat.reduceLeDiff,Nat.reduceBEq,Nat.reduceBneDiff,Value.cells]
  refine (at_sync E A8 S8 (by rw [hbs]; omega) (by omega) (by omega)).mono ?_
  rintro r H9 ⟨rfl, κ9, D9, cur9, A9, S9, hs9⟩
  simp -implicitDefEqProofs only [zB1,zB2,zB3,zB4,zB5,zB6,zB7,zB8,zB9,zB10,zB11,y00,y01,y02,y03,y04,y05,y06,y07,y08,y09,y0a,y0b,y0c,y0d,y0e,y0f,y0g,y0h,y0i,y0j,y0k,y0l,y0m,y0n,y0o,y0p,y0q,y0r,y0s,y0t,y0u,y0v,y0w,y0x,y0y,y0z,y10,y11,y12,y13,y14,y15,y16,y17,y18,y19,y1a,y1b,y1c,y1d,y1e,y1f,y1g,y1h,y1i,y1j,y1k,y1l,y1m,y1n,y1o,y1p,y1q,y1r,retO,retL,retV,z6i,allV,allP,z6j,z6m,z6n,z6t,z6u,z6v,binV,eqV,unV,oOpt,reduceIte,reduceCtorEq,Nat.reduceEqDiff,Nat.reduceAdd,Nat.reduceMul,Nat.reduceLT,Nat.reduceSub,Int.reduceLT,Int.reduceLE,Int.reduceEq,Int.reduceNe,Int.reduceSub,Int.reduceAdd,Int.reduceMul,Int.reduceBEq,Int.reduceBNe,Int.reduceGT,Int.reduceGE,Nat.reduceGT,Int.reduceToNat,Int.reduceNeg,Nat.reduceLeDiff,Nat.reduceBEq,Nat.reduceBneDiff,Value.cells]
  refine (at_crash E A9.A ((S9.okW (by rw [hbs]; omega) (by omega)).ok (by omega)) 0#64 0).mono ?_
  rintro v H10 ⟨κ10, A10⟩
  simp -implicitDefEqProofs only [zB1,zB2,zB3,zB4,zB5,zB6,zB7,zB8,zB9,zB10,zB11,y00,y01,y02,y03,y04,y05,y06,y07,y08,y09,y0a,y0b,y0c,y0d,y0e,y0f,y0g,y0h,y0i,y0j,y0k,y0l,y0m,y0n,y0o,y0p,y0q,y0r,y0s,y0t,y0u,y0v,y0w,y0x,y0y,y0z,y10,y11,y12,y13,y14,y15,y16,y17,y18,y19,y1a,y1b,y1c,y1d,y1e,y1f,y1g,y1h,y1i,y1j,y1k,y1l,y1m,y1n,y1o,y1p,y1q,y1r,retO,retL,retV,z6i,allV,allP,z6j,z6m,z6n,z6t,z6u,z6v,binV,eqV,unV,oOpt,reduceIte,reduceCtorEq,Nat.reduceEqDiff,Nat.reduceAdd,Nat.reduceMul,Nat.reduceLT,Nat.reduceSub,Int.reduceLT,Int.reduceLE,Int.reduceEq,Int.reduceNe,Int.reduceSub,Int.reduceAdd,Int.reduceMul,Int.reduceBEq,Int.reduceBNe,Int.reduceGT,Int.reduceGE,Nat.reduceGT,Int.reduceToNat,Int.reduceNeg,Nat.reduceLeDiff,Nat.reduceBEq,Nat.reduceBneDiff,Value.cells]
  refine (at_on E A10 (by rw [S9.lives_eq]; omega) (by rw [S9.lives_eq]; omega)).mono ?_
  rintro v H11 A11
  simp -implicitDefEqProofs only [zB1,zB2,zB3,zB4,zB5,zB6,zB7,zB8,zB9,zB10,zB11,y00,y01,y02,y03,y04,y05,y06,y07,y08,y09,y0a,y0b,y0c,y0d,y0e,y0f,y0g,y0h,y0i,y0j,y0k,y0l,y0m,y0n,y0o,y0p,y0q,y0r,y0s,y0t,y0u,y0v,y0w,y0x,y0y,y0z,y10,y11,y12,y13,y14,y15,y16,y17,y18,y19,y1a,y1b,y1c,y1d,y1e,y1f,y1g,y1h,y1i,y1j,y1k,y1l,y1m,y1n,y1o,y1p,y1q,y1r,retO,retL,retV,z6i,allV,allP,z6j,z6m,z6n,z6t,z6u,z6v,binV,eqV,unV,oOpt,reduceIte,reduceCtorEq,Nat.reduceEqDiff,Nat.reduceAdd,Nat.reduceMul,Nat.reduceLT,Nat.reduceSub,Int.reduceLT,Int.reduceLE,Int.reduceEq,Int.reduceNe,Int.reduceSub,Int.reduceAdd,Int.reduceMul,Int.reduceBEq,Int.reduceBNe,Int.reduceGT,Int.reduceGE,Nat.reduceGT,Int.reduceToNat,Int.reduceNeg,Nat.reduceLeDiff,Nat.reduceBEq,Nat.reduceBneDiff,Value.cells]
  refine (at_reopen E S9 (by simp at hn5; omega) A11 (by rw [hbs]; omega) (by omega)).mono ?_
  rintro v H12 ⟨j2, κ12, J12, D12, old12, cur12, n12, rfl, -, -, A12, S12, hm1, hm2, hm3, hm4, hm5⟩
  rw [hs9] at hm1
  have : n12 = J8.recs.length := by omega
  subst this
  rw [List.take_length, hr8, hn3] at hm3
  simp -implicitDefEqProofs only [zB1,zB2,zB3,zB4,zB5,zB6,zB7,zB8,zB9,zB10,zB11,y00,y01,y02,y03,y04,y05,y06,y07,y08,y09,y0a,y0b,y0c,y0d,y0e,y0f,y0g,y0h,y0i,y0j,y0k,y0l,y0m,y0n,y0o,y0p,y0q,y0r,y0s,y0t,y0u,y0v,y0w,y0x,y0y,y0z,y10,y11,y12,y13,y14,y15,y16,y17,y18,y19,y1a,y1b,y1c,y1d,y1e,y1f,y1g,y1h,y1i,y1j,y1k,y1l,y1m,y1n,y1o,y1p,y1q,y1r,retO,retL,retV,z6i,allV,allP,z6j,z6m,z6n,z6t,z6u,z6v,binV,eqV,unV,oOpt,reduceIte,reduceCtorEq,Nat.reduceEqDiff,Nat.reduceAdd,Nat.reduceMul,Nat.reduceLT,Nat.reduceSub,Int.reduceLT,Int.reduceLE,Int.reduceEq,Int.reduceNe,Int.reduceSub,Int.reduceAdd,Int.reduceMul,Int.reduceBEq,Int.reduceBNe,Int.reduceGT,Int.reduceGE,Nat.reduceGT,Int.reduceToNat,Int.reduceNeg,Nat.reduceLeDiff,Nat.reduceBEq,Nat.reduceBneDiff,Value.cells]
  unfold ir_bandboxlaw14_JournalHoles_138
  simp -implicitDefEqProofs only [zB1,zB2,zB3,zB4,zB5,zB6,zB7,zB8,zB9,zB10,zB11,y00,y01,y02,y03,y04,y05,y06,y07,y08,y09,y0a,y0b,y0c,y0d,y0e,y0f,y0g,y0h,y0i,y0j,y0k,y0l,y0m,y0n,y0o,y0p,y0q,y0r,y0s,y0t,y0u,y0v,y0w,y0x,y0y,y0z,y10,y11,y12,y13,y14,y15,y16,y17,y18,y19,y1a,y1b,y1c,y1d,y1e,y1f,y1g,y1h,y1i,y1j,y1k,y1l,y1m,y1n,y1o,y1p,y1q,y1r,retO,retL,retV,z6i,allV,allP,z6j,z6m,z6n,z6t,z6u,z6v,binV,eqV,unV,oOpt,reduceIte,reduceCtorEq,Nat.reduceEqDiff,Nat.reduceAdd,Nat.reduceMul,Nat.reduceLT,Nat.reduceSub,Int.reduceLT,Int.reduceLE,Int.reduceEq,Int.reduceNe,Int.reduceSub,Int.reduceAdd,Int.reduceMul,Int.reduceBEq,Int.reduceBNe,Int.reduceGT,Int.reduceGE,Nat.reduceGT,Int.reduceToNat,Int.reduceNeg,Nat.reduceLeDiff,Nat.reduceBEq,Nat.reduceBneDiff,Value.cells]
  have hl12 : J12.recs.length = n + 1 := by rw [hm3, List.length_append, List.length_take]; simp; omega
  have hJ12b : ∀ l ∈ J12.recs, l.length ≤ 1000000 := by
    intro l hl
    rw [hm3] at hl
    rcases List.mem_append.1 hl with hl | hl
    · have := h200 l (List.mem_of_mem_take hl); omega
    · rw [List.mem_singleton] at hl; subst hl; omega
  refine (journal_All_c E A12.N (by omega) hJ12b).mono ?_
  rintro av3 H13 ⟨le13, κz, N13⟩
  have A13 := A12.le le13
  have sR13 := N13.sl
  rw [hm3] at sR13
  obtain ⟨ab3, ac3, rfl⟩ := sR13.shape
  simp -implicitDefEqProofs only [zB1,zB2,zB3,zB4,zB5,zB6,zB7,zB8,zB9,zB10,zB11,y00,y01,y02,y03,y04,y05,y06,y07,y08,y09,y0a,y0b,y0c,y0d,y0e,y0f,y0g,y0h,y0i,y0j,y0k,y0l,y0m,y0n,y0o,y0p,y0q,y0r,y0s,y0t,y0u,y0v,y0w,y0x,y0y,y0z,y10,y11,y12,y13,y14,y15,y16,y17,y18,y19,y1a,y1b,y1c,y1d,y1e,y1f,y1g,y1h,y1i,y1j,y1k,y1l,y1m,y1n,y1o,y1p,y1q,y1r,retO,retL,retV,z6i,allV,allP,z6j,z6m,z6n,z6t,z6u,z6v,binV,eqV,unV,oOpt,reduceIte,reduceCtorEq,Nat.reduceEqDiff,Nat.reduceAdd,Nat.reduceMul,Nat.reduceLT,Nat.reduceSub,Int.reduceLT,Int.reduceLE,Int.reduceEq,Int.reduceNe,Int.reduceSub,Int.reduceAdd,Int.reduceMul,Int.reduceBEq,Int.reduceBNe,Int.reduceGT,Int.reduceGE,Nat.reduceGT,Int.reduceToNat,Int.reduceNeg,Nat.reduceLeDiff,Nat.reduceBEq,Nat.reduceBneDiff,Value.cells, List.flatten_nil, List.replicate_zero]
  intro b146 hb146
  try simp -implicitDefEqProofs only [zB1,zB2,zB3,zB4,zB5,zB6,zB7,zB8,zB9,zB10,zB11,y00,y01,y02,y03,y04,y05,y06,y07,y08,y09,y0a,y0b,y0c,y0d,y0e,y0f,y0g,y0h,y0i,y0j,y0k,y0l,y0m,y0n,y0o,y0p,y0q,y0r,y0s,y0t,y0u,y0v,y0w,y0x,y0y,y0z,y10,y11,y12,y13,y14,y15,y16,y17,y18,y19,y1a,y1b,y1c,y1d,y1e,y1f,y1g,y1h,y1i,y1j,y1k,y1l,y1m,y1n,y1o,y1p,y1q,y1r,retO,retL,retV,z6i,allV,allP,z6j,z6m,z6n,z6t,z6u,z6v,binV,eqV,unV,oOpt,reduceIte,reduceCtorEq,Nat.reduceEqDiff,Nat.reduceAdd,Nat.reduceMul,Nat.reduceLT,Nat.reduceSub,Int.reduceLT,Int.reduceLE,Int.reduceEq,Int.reduceNe,Int.reduceSub,Int.reduceAdd,Int.reduceMul,Int.reduceBEq,Int.reduceBNe,Int.reduceGT,Int.reduceGE,Nat.reduceGT,Int.reduceToNat,Int.reduceNeg,Nat.reduceLeDiff,Nat.reduceBEq,Nat.reduceBneDiff,Value.cells]
  have leB := Heap.le_set (Heap.le_refl H13) hb146 (.own 0 [] 0)
  obtain ⟨vs, hv, slv, ov, ev⟩ := SlL.one (SlL.pre (sL.le A13.A.hle) (k := n) (by omega))
  have lTn : (L.take n).length = n := by rw [List.length_take]; omega
  rw [lTn] at slv hv
  simp -implicitDefEqProofs only [zB1,zB2,zB3,zB4,zB5,zB6,zB7,zB8,zB9,zB10,zB11,y00,y01,y02,y03,y04,y05,y06,y07,y08,y09,y0a,y0b,y0c,y0d,y0e,y0f,y0g,y0h,y0i,y0j,y0k,y0l,y0m,y0n,y0o,y0p,y0q,y0r,y0s,y0t,y0u,y0v,y0w,y0x,y0y,y0z,y10,y11,y12,y13,y14,y15,y16,y17,y18,y19,y1a,y1b,y1c,y1d,y1e,y1f,y1g,y1h,y1i,y1j,y1k,y1l,y1m,y1n,y1o,y1p,y1q,y1r,retO,retL,retV,z6i,allV,allP,z6j,z6m,z6n,z6t,z6u,z6v,binV,eqV,unV,oOpt,reduceIte,reduceCtorEq,Nat.reduceEqDiff,Nat.reduceAdd,Nat.reduceMul,Nat.reduceLT,Nat.reduceSub,Int.reduceLT,Int.reduceLE,Int.reduceEq,Int.reduceNe,Int.reduceSub,Int.reduceAdd,Int.reduceMul,Int.reduceBEq,Int.reduceBNe,Int.reduceGT,Int.reduceGE,Nat.reduceGT,Int.reduceToNat,Int.reduceNeg,Nat.reduceLeDiff,Nat.reduceBEq,Nat.reduceBneDiff,Value.cells, bd, addO Lb Lc (fun a _ => addr_add0 a), Nat.sub_zero, implies_true, List.mem_cons, List.not_mem_nil, List.mem_singleton, or_false, forall_eq, forall_eq_or_imp, and_self]
  refine appendP_ow (n := 0) (cells := []) (m := n) (news := vs) leB (by omega) (Ow.new (c := 0) (sz := 0) (Heap.le_refl _) hb146 rfl (by omega) (by omega)) (slv.le leB) ov (by omega) (by omega) ?_
  intro v14 H14 o14 le14
  rw [Nat.zero_add, List.nil_append] at o14
  obtain ⟨vb14, vc14, rfl⟩ := Sl.shape o14.sl
  simp -implicitDefEqProofs only [zB1,zB2,zB3,zB4,zB5,zB6,zB7,zB8,zB9,zB10,zB11,y00,y01,y02,y03,y04,y05,y06,y07,y08,y09,y0a,y0b,y0c,y0d,y0e,y0f,y0g,y0h,y0i,y0j,y0k,y0l,y0m,y0n,y0o,y0p,y0q,y0r,y0s,y0t,y0u,y0v,y0w,y0x,y0y,y0z,y10,y11,y12,y13,y14,y15,y16,y17,y18,y19,y1a,y1b,y1c,y1d,y1e,y1f,y1g,y1h,y1i,y1j,y1k,y1l,y1m,y1n,y1o,y1p,y1q,y1r,retO,retL,retV,z6i,allV,allP,z6j,z6m,z6n,z6t,z6u,z6v,binV,eqV,unV,oOpt,reduceIte,reduceCtorEq,Nat.reduceEqDiff,Nat.reduceAdd,Nat.reduceMul,Nat.reduceLT,Nat.reduceSub,Int.reduceLT,Int.reduceLE,Int.reduceEq,Int.reduceNe,Int.reduceSub,Int.reduceAdd,Int.reduceMul,Int.reduceBEq,Int.reduceBNe,Int.reduceGT,Int.reduceGE,Nat.reduceGT,Int.reduceToNat,Int.reduceNeg,Nat.reduceLeDiff,Nat.reduceBEq,Nat.reduceBneDiff,Value.cells, List.length_replicate, List.drop_replicate, List.replicate_zero, implies_true]
  intro b152 hb152
  try simp -implicitDefEqProofs only [zB1,zB2,zB3,zB4,zB5,zB6,zB7,zB8,zB9,zB10,zB11,y00,y01,y02,y03,y04,y05,y06,y07,y08,y09,y0a,y0b,y0c,y0d,y0e,y0f,y0g,y0h,y0i,y0j,y0k,y0l,y0m,y0n,y0o,y0p,y0q,y0r,y0s,y0t,y0u,y0v,y0w,y0x,y0y,y0z,y10,y11,y12,y13,y14,y15,y16,y17,y18,y19,y1a,y1b,y1c,y1d,y1e,y1f,y1g,y1h,y1i,y1j,y1k,y1l,y1m,y1n,y1o,y1p,y1q,y1r,retO,retL,retV,z6i,allV,allP,z6j,z6m,z6n,z6t,z6u,z6v,binV,eqV,unV,oOpt,reduceIte,reduceCtorEq,Nat.reduceEqDiff,Nat.reduceAdd,Nat.reduceMul,Nat.reduceLT,Nat.reduceSub,Int.reduceLT,Int.reduceLE,Int.reduceEq,Int.reduceNe,Int.reduceSub,Int.reduceAdd,Int.reduceMul,Int.reduceBEq,Int.reduceBNe,Int.reduceGT,Int.reduceGE,Nat.reduceGT,Int.reduceToNat,Int.reduceNeg,Nat.reduceLeDiff,Nat.reduceBEq,Nat.reduceBneDiff,Value.cells]
  have leC := Heap.le_set (Heap.le_refl H14) hb152 (.own 0 [.slice mb more.length mc] 1)
  have sx : Sl (H14.set b152 (.own 0 [.slice mb more.length mc] 1)) 1 (.slice (some ⟨b152, 0, none⟩) 1 1) 1 [.slice mb more.length mc] := Sl.lit rfl
  have le15 := Heap.le_trans le14 leC
  refine appendP_ow (m := 1) le15 (by omega) (o14.le leC) sx rfl (by omega) (by omega) ?_
  intro v16 H16 o16 le16
  have s16 : SlL H16 v16 (L.take n ++ [more]) := by
    refine ⟨vs ++ [.slice mb more.length mc], by simp [hv, lTn], by rw [List.length_append, lTn]; exact o16.sl, ?_⟩
    intro q a b
    by_cases hq : q < n
    · have g1 : (vs ++ [.slice mb more.length mc])[q]'a = vs[q]'(by omega) := List.getElem_append_left (by omega)
      have g2 : (L.take n ++ [more])[q]'b = (L.take n)[q]'(by omega) := List.getElem_append_left (by omega)
      rw [g1, g2]
      exact (ev q (by omega) (by omega)).le le16
    · have hq' : q = n := by simp at b; omega
      subst hq'
      have g1 : (vs ++ [.slice mb more.length mc])[q]'a = .slice mb more.length mc := by rw [List.getElem_append_right (by omega)]; simp [hv]
      have g2 : (L.take q ++ [more])[q]'b = more := by rw [List.getElem_append_right (by omega)]; simp [lTn]
      rw [g1, g2]
      exact sm.le (Heap.le_trans A13.A.hle le16)
  obtain ⟨vb16, vc16, rfl⟩ := s16.shape
  simp -implicitDefEqProofs only [zB1,zB2,zB3,zB4,zB5,zB6,zB7,zB8,zB9,zB10,zB11,y00,y01,y02,y03,y04,y05,y06,y07,y08,y09,y0a,y0b,y0c,y0d,y0e,y0f,y0g,y0h,y0i,y0j,y0k,y0l,y0m,y0n,y0o,y0p,y0q,y0r,y0s,y0t,y0u,y0v,y0w,y0x,y0y,y0z,y10,y11,y12,y13,y14,y15,y16,y17,y18,y19,y1a,y1b,y1c,y1d,y1e,y1f,y1g,y1h,y1i,y1j,y1k,y1l,y1m,y1n,y1o,y1p,y1q,y1r,retO,retL,retV,z6i,allV,allP,z6j,z6m,z6n,z6t,z6u,z6v,binV,eqV,unV,oOpt,reduceIte,reduceCtorEq,Nat.reduceEqDiff,Nat.reduceAdd,Nat.reduceMul,Nat.reduceLT,Nat.reduceSub,Int.reduceLT,Int.reduceLE,Int.reduceEq,Int.reduceNe,Int.reduceSub,Int.reduceAdd,Int.reduceMul,Int.reduceBEq,Int.reduceBNe,Int.reduceGT,Int.reduceGE,Nat.reduceGT,Int.reduceToNat,Int.reduceNeg,Nat.reduceLeDiff,Nat.reduceBEq,Nat.reduceBneDiff,Value.cells, implies_true]
  refine (law14_same_c E _ _ (sR13.le le16) s16 (by simp; omega) (by simp; omega)).mono ?_
  rintro r H17 ⟨rfl, rfl⟩
  simp -implicitDefEqProofs only [zB1,zB2,zB3,zB4,zB5,zB6,zB7,zB8,zB9,zB10,zB11,y00,y01,y02,y03,y04,y05,y06,y07,y08,y09,y0a,y0b,y0c,y0d,y0e,y0f,y0g,y0h,y0i,y0j,y0k,y0l,y0m,y0n,y0o,y0p,y0q,y0r,y0s,y0t,y0u,y0v,y0w,y0x,y0y,y0z,y10,y11,y12,y13,y14,y15,y16,y17,y18,y19,y1a,y1b,y1c,y1d,y1e,y1f,y1g,y1h,y1i,y1j,y1k,y1l,y1m,y1n,y1o,y1p,y1q,y1r,retO,retL,retV,z6i,allV,allP,z6j,z6m,z6n,z6t,z6u,z6v,binV,eqV,unV,oOpt,reduceIte,reduceCtorEq,Nat.reduceEqDiff,Nat.reduceAdd,Nat.reduceMul,Nat.reduceLT,Nat.reduceSub,Int.reduceLT,Int.reduceLE,Int.reduceEq,Int.reduceNe,Int.reduceSub,Int.reduceAdd,Int.reduceMul,Int.reduceBEq,Int.reduceBNe,Int.reduceGT,Int.reduceGE,Nat.reduceGT,Int.reduceToNat,Int.reduceNeg,Nat.reduceLeDiff,Nat.reduceBEq,Nat.reduceBneDiff,Value.cells]
end Go.Bb
