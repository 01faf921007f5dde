/- EpochRings: for all arguments the statement answers true, whole; no condition. -/
import Derived.Test.YtfekancobbplaaaBbEnv
import Derived.Test.YtfekancobbplaaaBbM2
import Derived.Test.YtfekancobbplaaaRows
import Derived.WalkKit
import Derived.ProofKit
import Derived.OpenShut
import Derived.ShutString
import Derived.ChangeOld
import Derived.Below
import Derived.SizedLaws
namespace Go.Proofs.Ytfekancobbplaaa.epochRings
open Go.ChangeShapes Go.WideShapes Go.ChangeAt Go.RowKit Go.Bb
open Go.ChangeMaps (open_string shut_string)
set_option linter.unusedVariables false
set_option linter.unusedSimpArgs false
theorem own : ownKnob Try.prog.godebug = none := by kernel_rfl
theorem laidOut : laidOutB Try.prog = true := by kernel_rfl
/-! ### the library's iterators, as they stand in this program -/
def ziRen : Go.Shelf.Ren := ⟨fun | 10 => 69 | 11 => 68 | n => n, fun | 0 => 0 | 3 => 53 | 4 => 4 | 23 => 86 | 24 => 61 | 26 => 2 | 28 => 92 | 33 => 94 | n => n, fun n => n⟩
theorem zi10 : SlLaysZI.n10 Try.prog ziRen where
  mixed := by kernel_rfl
  f10 := ⟨"maps.Keys[map[int64]bandbox/api.Word,int64,bandbox/api.Word]$1", by decide, Try.func69.trans (congrArg some (by kernel_rfl))⟩
  t0 := Try.underlying0
  a0 := Try.isAgg0
  z0 := Try.sizeOf0
  v0 := Try.zeroValue0
  t4 := Try.underlying4
  a4 := Try.isAgg4
  z4 := Try.sizeOf4
  v4 := Try.zeroValue4
  t23 := Try.underlying86
  a23 := Try.isAgg86
  z23 := Try.sizeOf86
  v23 := Try.zeroValue86
  t26 := Try.underlying2
  a26 := Try.isAgg2
  z26 := Try.sizeOf2
  v26 := Try.zeroValue2
  t33 := Try.underlying94
  a33 := Try.isAgg94
  z33 := Try.sizeOf94
  v33 := Try.zeroValue94
theorem zi11 : SlLaysZI.n11 Try.prog ziRen where
  mixed := by kernel_rfl
  f11 := ⟨"slices.AppendSeq[[]int64,int64]", by decide, Try.func68.trans (congrArg some (by kernel_rfl))⟩
  t0 := Try.underlying0
  a0 := Try.isAgg0
  z0 := Try.sizeOf0
  v0 := Try.zeroValue0
  t24 := Try.underlying61
  a24 := Try.isAgg61
  z24 := Try.sizeOf61
  v24 := Try.zeroValue61
  t26 := Try.underlying2
  a26 := Try.isAgg2
  z26 := Try.sizeOf2
  v26 := Try.zeroValue2
  t28 := Try.underlying92
  a28 := Try.isAgg92
  z28 := Try.sizeOf92
  v28 := Try.zeroValue92
  i26 := by kernel_rfl
theorem colEnv : ColOk env := colOk (ρ := ziRen) zi10 zi11 rfl rfl
set_option maxRecDepth 100000 in
theorem lifted (os : Os) (started : os.Started) (H : Type) (enc : TypeId × Value → H) :
    ReturnsInHanded {} Try.checked os 7 .any (Rows.epochRingsSpec.pre6 enc Try.prog Try.f7 Rows.epochRingsRow.domain false) (Rows.epochRingsSpec.post enc Try.prog Try.f7 false true false false) := by
  refine returnsInHanded_of_change_sized (C := Try.checked) own started (by kernel_rfl) Try.func7
    (ChangeSpec.witness6 (enc := enc) (C := Try.checked) false ⟨#[], #[.slice none 0 0, .slice none 0 0, .int .i64 0], []⟩ 8 (by kernel_rfl) (by kernel_rfl) (by kernel_rfl) (by kernel_rfl)) ?_
  intro W base args ds gs before hval0 hW hcnd hsz0 _
  have hval : ∀ (j : Nat) t v, Try.f7.params[j]? = some t → args[j]? = some v → Value.okWide Try.prog W .any base t v := hval0
  have hW' := hW
  obtain ⟨p, q, hA0, hV, rfl, hfz, hnd⟩ := hW
  have hA : DataW.TrodAll enc Try.prog W 0 (fun _ => true) true Try.f7.params.toList args.toList ds p := hA0
  rw [Try.params7] at hA hval
  obtain ⟨v0, vs0, d0, ds0, p0, q0, hargs, rfl, rfl, h0, r0⟩ := trodAll_cons hA
  obtain ⟨v1, vs1, d1, ds1, p1, q1, rfl, rfl, rfl, h1, r1⟩ := trodAll_cons r0
  obtain ⟨v2, vs2, d2, ds2, p2, q2, rfl, rfl, rfl, h2, r2⟩ := trodAll_cons r1
  obtain ⟨rfl, rfl, rfl⟩ := trodAll_nil r2
  obtain rfl : args = #[v0, v1, v2] := by cases args; simp_all
  obtain ⟨rfl, rfl⟩ := trodVars_none hV
  have s0 : Shp.ok W (.slice 1 (.int .i64)) v0 := Shp.ok_of (P := Try.prog) (by kernel_rfl) (hval 0 61 v0 rfl rfl) h0
  have s1 : Shp.ok W (.slice 1 (.int .u8)) v1 := Shp.ok_of (P := Try.prog) (by kernel_rfl) (hval 1 23 v1 rfl rfl) h1
  have s2 : Shp.ok W (.int .i64) v2 := Shp.ok_of (P := Try.prog) (by kernel_rfl) (hval 2 2 v2 rfl rfl) h2
  clear hA0 hval0 hsz0
  refine (row_of (E := env.toEnv) (n := 173) (f := 7) rfl ((bandboxlaw22_EpochRings_c env colEnv W s0 s1 s2).mono fun v h' h => h)).mono fun e W' ⟨he, bel⟩ => ?_
  subst he
  exact ⟨_, rfl, _, _, _, [], _, [], hW', trodAll_mk1 (shut_bool Try.underlying4 _), (trodAll_cons_mk (Below.trod laidOut (by kernel_rfl) (of_decide_eq_true (by kernel_rfl)) h0 bel (fun x hx => hW'.lt x (by simp [hx]))) (trodAll_cons_mk (Below.trod laidOut (by kernel_rfl) (of_decide_eq_true (by kernel_rfl)) h1 bel (fun x hx => hW'.lt x (by simp [hx]))) (trodAll_cons_mk (Below.trod laidOut (by kernel_rfl) (of_decide_eq_true (by kernel_rfl)) h2 bel (fun x hx => hW'.lt x (by simp [hx]))) trodAll_mk0))), rfl, bel.frame _, fun h => by cases h⟩
theorem over : Rows.epochRingsRow.holds Try.pinned (OpenSpec.ofChange Rows.epochRingsSpec) :=
  OpenClaim.holds_of_wide 7 Try.f7 rfl rfl rfl rfl rfl rfl rfl ⟨rfl, rfl, rfl, rfl, rfl⟩ rfl rfl rfl rfl rfl (by kernel_rfl) Try.func7 (by kernel_rfl)
    (of_decide_eq_true (by kernel_rfl)) (by unfold Func.isWrapper; first | (rw [if_pos (by decide +kernel)]; kernel_rfl) | (rw [if_neg (by decide +kernel)]; exact ⟨rfl, rfl⟩))
    (fun os started H enc _ => lifted os started H enc)
end Go.Proofs.Ytfekancobbplaaa.epochRings
namespace Go.Proofs.Ytfekancobbplaaa
/-- The row, under a short name, for the claim. -/
theorem mainEpochRings : Rows.EpochRingsSaid := epochRings.over
end Go.Proofs.Ytfekancobbplaaa
