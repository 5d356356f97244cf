/- The law ringkeep5.CredFalls, for every input it returns true and leaves its arguments as they were: no condition. -/
import Derived.Test.YtddfgdodpjmjfaaRows
import Derived.Test.YtddfgdodpjmjfaaBase
import Derived.Test.YtddfgdodpjmjfaaCommon
import Derived.Test.YtddfgdodpjmjfaaTab
import Derived.Test.YtddfgdodpjmjfaaAgg
import Derived.Test.YtddfgdodpjmjfaaCredFalls
import Derived.WalkKit
import Derived.ProofKit
import Derived.OpenShut
import Derived.ShutString
import Derived.ChangeOld
import Derived.Below
namespace Go.Proofs.Ytddfgdodpjmjfaa.credFallsDone
open Go.ChangeShapes Go.WideShapes Go.ChangeAt Go.RowKit
open Go.ChangeMaps (open_string shut_string)
set_option linter.unusedVariables false

theorem own : ownKnob Try.prog.godebug = none := by kernel_rfl
theorem laidOut : laidOutB Try.prog = true := by kernel_rfl

set_option maxRecDepth 100000 in
theorem lifted (os : Os) (started : os.Started) (H : Type) (enc : TypeId × Value → H) :
    ReturnsInHanded {} Try.checked os 10 .any (Rows.credFallsSpec.pre6 enc Try.prog Try.f10 Rows.credFallsRow.domain false) (Rows.credFallsSpec.post enc Try.prog Try.f10 false true false false) := by
  refine returnsInHanded_of_change (C := Try.checked) own started (by kernel_rfl) Try.func10
    (ChangeSpec.witness6 (enc := enc) (C := Try.checked) false ⟨#[], #[.agg #[.int .i64 0, .int .i64 0, .slice none 0 0, .int .i64 0, .int .i64 0, .int .i64 0], .slice none 0 0], []⟩ 8 (by kernel_rfl) (by kernel_rfl) (by kernel_rfl) (by kernel_rfl)) ?_
  intro W base args ds gs before hval0 hW hcnd _
  have hval : ∀ (j : Nat) t v, Try.f10.params[j]? = some t → args[j]? = some v → Value.okWide Try.prog W .any base t v := hval0
  have hW' := hW
  obtain ⟨p, q, hA0, hV, rfl, hfz, hnd⟩ := hW
  have hA : DataW.TrodAll enc Try.prog W 0 (fun _ => true) true Try.f10.params.toList args.toList ds p := hA0
  rw [Try.params10] at hA hval
  obtain ⟨v0, vs0, d0, ds0, p0, q0, hargs, rfl, rfl, h0, r0⟩ := trodAll_cons hA
  obtain ⟨v1, vs1, d1, ds1, p1, q1, rfl, rfl, rfl, h1, r1⟩ := trodAll_cons r0
  obtain ⟨rfl, rfl, rfl⟩ := trodAll_nil r1
  obtain rfl : args = #[v0, v1] := by cases args; simp_all
  obtain ⟨rfl, rfl⟩ := trodVars_none hV
  have ok0 := hval 0 44 v0 rfl rfl
  have k0 := h0
  have lt0 : ∀ x ∈ p0, x.block < W.heap.size := by obtain ⟨m, hm⟩ := k0; exact DataW.trod_lt m _ _ _ hm
  have ok1 := hval 1 42 v1 rfl rfl
  have k1 := h1
  have lt1 : ∀ x ∈ p1, x.block < W.heap.size := by obtain ⟨m, hm⟩ := k1; exact DataW.trod_lt m _ _ _ hm
  clear hA0 hval0
  obtain ⟨cs1, n1, rfl, hz1, hf1⟩ := open_aggN Try.underlying44 (by kernel_rfl) (by kernel_rfl) ok0 h0
  obtain ⟨c0, c1, c2, c3, c4, c5, rfl⟩ := array6 hz1
  obtain ⟨yc0, tc0⟩ := hf1 0 _ _ rfl rfl
  obtain ⟨yc1, tc1⟩ := hf1 1 _ _ rfl rfl
  obtain ⟨yc2, tc2⟩ := hf1 2 _ _ rfl rfl
  obtain ⟨yc3, tc3⟩ := hf1 3 _ _ rfl rfl
  obtain ⟨yc4, tc4⟩ := hf1 4 _ _ rfl rfl
  obtain ⟨yc5, tc5⟩ := hf1 5 _ _ rfl rfl
  obtain ⟨cz0, rfl, _, _⟩ := fld_int Try.underlying3 tc0
  obtain ⟨cz1, rfl, _, _⟩ := fld_int Try.underlying3 tc1
  obtain ⟨cz3, rfl, _, _⟩ := fld_int Try.underlying3 tc3
  obtain ⟨cz4, rfl, _, _⟩ := fld_int Try.underlying3 tc4
  obtain ⟨cz5, rfl, _, _⟩ := fld_int Try.underlying3 tc5
  obtain ⟨xs, hM, _⟩ := fld_ints Try.underlying42 Try.underlying3 (by kernel_rfl) tc2
  obtain ⟨l, hL, hLb⟩ := open_at_int Try.underlying42 Try.underlying3 (by kernel_rfl) ok1 h1
  refine (CredLaw.credfalls_any (c := ⟨cz0, cz1, xs, cz3, cz4, cz5⟩) hM hL (fun x hx => bounds_i64 (hLb x hx))).mono fun e W' ⟨he, bel⟩ => ?_
  subst he
  exact ⟨_, rfl, _, _, _, [], _, [], hW', trodAll_mk1 (shut_bool Try.underlying4 _), (trodAll_cons_mk (Below.trod laidOut (by kernel_rfl) (of_decide_eq_true (by kernel_rfl)) k0 bel lt0) (trodAll_cons_mk (Below.trod laidOut (by kernel_rfl) (of_decide_eq_true (by kernel_rfl)) k1 bel lt1) trodAll_mk0)), rfl, bel.frame _, fun h => by cases h⟩

theorem over : Rows.credFallsRow.holds Try.pinned (OpenSpec.ofChange Rows.credFallsSpec) :=
  OpenClaim.holds_of_wide 10 Try.f10 rfl rfl rfl rfl rfl rfl rfl ⟨rfl, rfl, rfl, rfl, rfl⟩ rfl rfl rfl rfl rfl (by kernel_rfl) Try.func10 (by kernel_rfl)
    (of_decide_eq_true (by kernel_rfl)) (by unfold Func.isWrapper; first | (rw [if_pos (by decide +kernel)]; kernel_rfl) | (rw [if_neg (by decide +kernel)]; exact ⟨rfl, rfl⟩))
    (fun os started H enc _ => lifted os started H enc)

theorem proved : Rows.CredFallsSaid := over
end Go.Proofs.Ytddfgdodpjmjfaa.credFallsDone
