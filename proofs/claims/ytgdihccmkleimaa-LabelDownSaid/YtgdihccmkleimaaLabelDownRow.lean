/- The law ringkeep5.LabelDown, for every input it returns true and leaves its arguments as they were: no condition. -/
import Derived.Test.YtgdihccmkleimaaRows
import Derived.Test.YtgdihccmkleimaaBase
import Derived.Test.YtgdihccmkleimaaCommon
import Derived.Test.YtgdihccmkleimaaTab
import Derived.Test.YtgdihccmkleimaaDownOpen
import Derived.WalkKit
import Derived.ProofKit
import Derived.OpenShut
import Derived.ShutString
import Derived.ChangeOld
import Derived.Below
namespace Go.Proofs.Ytgdihccmkleimaa.labelDownDone
open Go.ChangeShapes Go.WideShapes Go.ChangeAt Go.RowKit
open Go.ChangeMaps (open_string shut_string)
set_option linter.unusedVariables false

theorem own : ownKnob Try.prog.godebug = none := by kernel_rfl
theorem laidOut : laidOutB Try.prog = true := by kernel_rfl

set_option maxRecDepth 100000 in
theorem lifted (os : Os) (started : os.Started) (H : Type) (enc : TypeId × Value → H) :
    ReturnsInHanded {} Try.checked os 7 .any (Rows.labelDownSpec.pre6 enc Try.prog Try.f7 Rows.labelDownRow.domain false) (Rows.labelDownSpec.post enc Try.prog Try.f7 false true false false) := by
  refine returnsInHanded_of_change (C := Try.checked) own started (by kernel_rfl) Try.func7
    (ChangeSpec.witness6 (enc := enc) (C := Try.checked) false ⟨#[], #[.slice none 0 0, .slice none 0 0, .slice none 0 0, .int .i64 0], []⟩ 8 (by kernel_rfl) (by kernel_rfl) (by kernel_rfl) (by kernel_rfl)) ?_
  intro W base args ds gs before hval0 hW hcnd _
  have hval : ∀ (j : Nat) t v, Try.f7.params[j]? = some t → args[j]? = some v → Value.okWide Try.prog W .any base t v := hval0
  have hW' := hW
  obtain ⟨p, q, hA0, hV, rfl, hfz, hnd⟩ := hW
  have hA : DataW.TrodAll enc Try.prog W 0 (fun _ => true) true Try.f7.params.toList args.toList ds p := hA0
  rw [Try.params7] at hA hval
  obtain ⟨v0, vs0, d0, ds0, p0, q0, hargs, rfl, rfl, h0, r0⟩ := trodAll_cons hA
  obtain ⟨v1, vs1, d1, ds1, p1, q1, rfl, rfl, rfl, h1, r1⟩ := trodAll_cons r0
  obtain ⟨v2, vs2, d2, ds2, p2, q2, rfl, rfl, rfl, h2, r2⟩ := trodAll_cons r1
  obtain ⟨v3, vs3, d3, ds3, p3, q3, rfl, rfl, rfl, h3, r3⟩ := trodAll_cons r2
  obtain ⟨rfl, rfl, rfl⟩ := trodAll_nil r3
  obtain rfl : args = #[v0, v1, v2, v3] := by cases args; simp_all
  obtain ⟨rfl, rfl⟩ := trodVars_none hV
  have ok0 := hval 0 50 v0 rfl rfl
  have k0 := h0
  have lt0 : ∀ x ∈ p0, x.block < W.heap.size := by obtain ⟨m, hm⟩ := k0; exact DataW.trod_lt m _ _ _ hm
  have ok1 := hval 1 50 v1 rfl rfl
  have k1 := h1
  have lt1 : ∀ x ∈ p1, x.block < W.heap.size := by obtain ⟨m, hm⟩ := k1; exact DataW.trod_lt m _ _ _ hm
  have ok2 := hval 2 51 v2 rfl rfl
  have k2 := h2
  have lt2 : ∀ x ∈ p2, x.block < W.heap.size := by obtain ⟨m, hm⟩ := k2; exact DataW.trod_lt m _ _ _ hm
  have ok3 := hval 3 3 v3 rfl rfl
  have k3 := h3
  have lt3 : ∀ x ∈ p3, x.block < W.heap.size := by obtain ⟨m, hm⟩ := k3; exact DataW.trod_lt m _ _ _ hm
  clear hA0 hval0
  obtain ⟨len0, F0, hR0⟩ := open_rows Try.underlying50 Try.underlying43 (by kernel_rfl) (by kernel_rfl) (fun j f hf => .inl (by rw [all_types (t := 3) rfl j f hf]; exact Try.underlying3)) (by decide) ok0 h0
  obtain ⟨lw, hlw⟩ := LabelLaw.labS_of_rows rfl (all_types (t := 3) rfl) hR0
  obtain ⟨len1, F1, hR1⟩ := open_rows Try.underlying50 Try.underlying43 (by kernel_rfl) (by kernel_rfl) (fun j f hf => .inl (by rw [all_types (t := 3) rfl j f hf]; exact Try.underlying3)) (by decide) ok1 h1
  obtain ⟨lt, hlt⟩ := LabelLaw.labS_of_rows rfl (all_types (t := 3) rfl) hR1
  obtain ⟨len2, F2, hR2⟩ := open_rows Try.underlying51 Try.underlying110 (by kernel_rfl) (by kernel_rfl) (fun j f hf => by rw [LabelLaw.act_types rfl j f hf]; by_cases h : j = 2; exact .inr (by rw [if_pos h]; exact Try.underlying4); exact .inl (by rw [if_neg h]; exact Try.underlying3)) (by decide) ok2 h2
  obtain ⟨la, hla⟩ := LabelLaw.actS_of_rows rfl (LabelLaw.act_types rfl) hR2
  obtain ⟨a3, rfl, rfl, rfl, w3⟩ := open_int Try.underlying3 ok3 h3
  refine (LabelLaw.labeldown_any a3 hlw hlt hla).mono fun e W' ⟨he, bel⟩ => ?_
  subst he
  exact ⟨_, rfl, _, _, _, [], _, [], hW', trodAll_mk1 (shut_bool Try.underlying4 _), (trodAll_cons_mk (Below.trod laidOut (by kernel_rfl) (of_decide_eq_true (by kernel_rfl)) k0 bel lt0) (trodAll_cons_mk (Below.trod laidOut (by kernel_rfl) (of_decide_eq_true (by kernel_rfl)) k1 bel lt1) (trodAll_cons_mk (Below.trod laidOut (by kernel_rfl) (of_decide_eq_true (by kernel_rfl)) k2 bel lt2) (trodAll_cons_mk (Below.trod laidOut (by kernel_rfl) (of_decide_eq_true (by kernel_rfl)) k3 bel lt3) trodAll_mk0)))), rfl, bel.frame _, fun h => by cases h⟩

theorem over : Rows.labelDownRow.holds Try.pinned (OpenSpec.ofChange Rows.labelDownSpec) :=
  OpenClaim.holds_of_wide 7 Try.f7 rfl rfl rfl rfl rfl rfl rfl ⟨rfl, rfl, rfl, rfl, rfl⟩ rfl rfl rfl rfl rfl (by kernel_rfl) Try.func7 (by kernel_rfl)
    (of_decide_eq_true (by kernel_rfl)) (by unfold Func.isWrapper; first | (rw [if_pos (by decide +kernel)]; kernel_rfl) | (rw [if_neg (by decide +kernel)]; exact ⟨rfl, rfl⟩))
    (fun os started H enc _ => lifted os started H enc)

theorem proved : Rows.LabelDownSaid := over
end Go.Proofs.Ytgdihccmkleimaa.labelDownDone
