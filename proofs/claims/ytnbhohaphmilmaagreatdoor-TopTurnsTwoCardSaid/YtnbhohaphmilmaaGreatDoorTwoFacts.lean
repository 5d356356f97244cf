/- The closed facts of the row of ringtop.TopTurnsTwo, one at a time: together they are more than the kernel holds. -/
import Derived.Test.YtnbhohaphmilmaaGreatDoorCards
import Derived.Test.YtnbhohaphmilmaaGreatDoorTie
import Derived.WalkKit
import Derived.ProofKit
import Derived.LaidMore
import Derived.JoinedCond
namespace Go.Proofs.YtnbhohaphmilmaaGreatDoor.topTurnsTwoFacts
open Go
set_option linter.unusedVariables false
set_option linter.unusedSimpArgs false
theorem goes_none {P : Program} {n : Nat} (hn : P.funcs.size = n) (h : ∀ i, i < n → (P.funcs[i]?).any Func.goes = false) (f : FuncId) : P.goes f = false := by
  have h1 : ∀ i : Nat, (P.funcs[i]?).any Func.goes = false := fun i => by
    by_cases hi : i < n
    · exact h i hi
    · rw [Array.getElem?_eq_none (by omega)]; rfl
  have h2 : (P.closure f).any (fun g => (P.funcs[g]?).any Func.goes) = false := by
    rw [List.any_eq_false]
    intro g _
    rw [h1 g]; decide
  have h3 : P.funcs.any Func.goes = false := by
    rw [Array.any_eq_false]
    intro i hi
    have := h1 i
    rw [Array.getElem?_eq_getElem hi] at this
    simpa using this
  unfold Program.goes
  rw [h2, h3]
  simp
theorem goesFrom_none {P : Program} (h : ∀ f, P.goes f = false) (n : String) : P.goesFrom n = false := by
  unfold Program.goesFrom
  cases P.funcNamed n with
  | none => rfl
  | some f => simpa using h f
theorem goesBy_none {P : Program} {c : OpenClaim} (h : ∀ f, P.goes f = false) (hs : c.start = .entering) : false = c.goesBy P := by
  unfold OpenClaim.goesBy Program.goesAt
  rw [hs, goesFrom_none h]
  rfl
theorem goes_part {P : Program} {a k : Nat} (h : (List.range' a k).all (fun i => !(P.funcs[i]?).any Func.goes) = true) (i : Nat) (h1 : a ≤ i) (h2 : i < a + k) : (P.funcs[i]?).any Func.goes = false := by
  have := List.all_eq_true.1 h i (by rw [List.mem_range']; exact ⟨i - a, by omega, by omega⟩)
  simpa using this
theorem goes0 : (List.range' 0 48).all (fun i => !(Tryz.pinned.checked.prog.funcs[i]?).any Func.goes) = true := by kernel_rfl
theorem goes1 : (List.range' 48 48).all (fun i => !(Tryz.pinned.checked.prog.funcs[i]?).any Func.goes) = true := by kernel_rfl
theorem goes2 : (List.range' 96 48).all (fun i => !(Tryz.pinned.checked.prog.funcs[i]?).any Func.goes) = true := by kernel_rfl
theorem goes3 : (List.range' 144 48).all (fun i => !(Tryz.pinned.checked.prog.funcs[i]?).any Func.goes) = true := by kernel_rfl
theorem goes4 : (List.range' 192 48).all (fun i => !(Tryz.pinned.checked.prog.funcs[i]?).any Func.goes) = true := by kernel_rfl
theorem goes5 : (List.range' 240 48).all (fun i => !(Tryz.pinned.checked.prog.funcs[i]?).any Func.goes) = true := by kernel_rfl
theorem goes6 : (List.range' 288 48).all (fun i => !(Tryz.pinned.checked.prog.funcs[i]?).any Func.goes) = true := by kernel_rfl
theorem goes7 : (List.range' 336 48).all (fun i => !(Tryz.pinned.checked.prog.funcs[i]?).any Func.goes) = true := by kernel_rfl
theorem goes8 : (List.range' 384 48).all (fun i => !(Tryz.pinned.checked.prog.funcs[i]?).any Func.goes) = true := by kernel_rfl
theorem goes9 : (List.range' 432 48).all (fun i => !(Tryz.pinned.checked.prog.funcs[i]?).any Func.goes) = true := by kernel_rfl
theorem goes10 : (List.range' 480 48).all (fun i => !(Tryz.pinned.checked.prog.funcs[i]?).any Func.goes) = true := by kernel_rfl
theorem goes11 : (List.range' 528 48).all (fun i => !(Tryz.pinned.checked.prog.funcs[i]?).any Func.goes) = true := by kernel_rfl
theorem few : decide (Tryz.pinned.checked.prog.funcs.size ≤ 576) = true := by kernel_rfl
set_option maxRecDepth 100000 in
theorem goes : false = Rows.topTurnsTwoRow.goesBy Tryz.pinned.checked.prog := by
  have h : ∀ f, Tryz.pinned.checked.prog.goes f = false := goes_none rfl fun i hi => by
    have := of_decide_eq_true few
    rcases Nat.lt_or_ge i 48 with q | q
    · exact goes_part goes0 i (by omega) (by omega)
    rcases Nat.lt_or_ge i 96 with q | q
    · exact goes_part goes1 i (by omega) (by omega)
    rcases Nat.lt_or_ge i 144 with q | q
    · exact goes_part goes2 i (by omega) (by omega)
    rcases Nat.lt_or_ge i 192 with q | q
    · exact goes_part goes3 i (by omega) (by omega)
    rcases Nat.lt_or_ge i 240 with q | q
    · exact goes_part goes4 i (by omega) (by omega)
    rcases Nat.lt_or_ge i 288 with q | q
    · exact goes_part goes5 i (by omega) (by omega)
    rcases Nat.lt_or_ge i 336 with q | q
    · exact goes_part goes6 i (by omega) (by omega)
    rcases Nat.lt_or_ge i 384 with q | q
    · exact goes_part goes7 i (by omega) (by omega)
    rcases Nat.lt_or_ge i 432 with q | q
    · exact goes_part goes8 i (by omega) (by omega)
    rcases Nat.lt_or_ge i 480 with q | q
    · exact goes_part goes9 i (by omega) (by omega)
    rcases Nat.lt_or_ge i 528 with q | q
    · exact goes_part goes10 i (by omega) (by omega)
    · exact goes_part goes11 i (by omega) (by omega)
  exact goesBy_none h rfl
theorem fact0 : Rows.topTurnsTwoRow.wf (OpenSpec.ofChange (OpenSpec.ofChange Rows.topTurnsTwoSpec).bare) = true := by kernel_rfl
theorem fact1 : laidOutB Tryz.pinned.checked.prog = true := by kernel_rfl
theorem fact2 : mapsRowed Tryz.pinned.checked.prog = true := by kernel_rfl
theorem fact3 : Tryz.f3.params.all (Tryz.pinned.checked.prog.readableRec ·) = true := by kernel_rfl
theorem fact4 : namedTie Tryz.pinned.checked.prog Rows.topTurnsTwoRow.named (OpenSpec.ofChange Rows.topTurnsTwoSpec).bare.vars = true := by kernel_rfl
theorem fact5 : (Rows.topTurnsTwoRow.stops == []) = true := by kernel_rfl
theorem fact6 : (Tryz.pinned.checked.prog.stops == []) = true := by kernel_rfl
theorem fact7 : (Rows.topTurnsTwoRow.knobs == []) = true := by kernel_rfl
theorem fact8 : (Tryz.pinned.checked.prog.stopKnobs == []) = true := by kernel_rfl
theorem fact9 : (Rows.topTurnsTwoRow.inPlace == Tryz.pinned.checked.prog.inPlace 3) = true := by kernel_rfl
theorem fact10 : (Rows.topTurnsTwoRow.unfollowed == Tryz.pinned.checked.prog.unfollowed 3) = true := by kernel_rfl
theorem fact11 : (Rows.topTurnsTwoRow.recurses == Tryz.pinned.checked.prog.recurses 3) = true := by kernel_rfl
theorem fact12 : (Rows.topTurnsTwoRow.named == Tryz.pinned.checked.prog.varsNamed 3) = true := by kernel_rfl
theorem fact13 : (Rows.topTurnsTwoRow.maps == (Tryz.f3.params.toList ++ (OpenSpec.ofChange Rows.topTurnsTwoSpec).bare.plain.varTypes Tryz.pinned.checked.prog).any (Tryz.pinned.checked.prog.mapsRec ·)) = true := by kernel_rfl
theorem fact14 : (Rows.topTurnsTwoRow.ifaces == (Tryz.f3.params.toList ++ (OpenSpec.ofChange Rows.topTurnsTwoSpec).bare.plain.varTypes Tryz.pinned.checked.prog).any (Tryz.pinned.checked.prog.ifacesRec ·)) = true := by kernel_rfl
theorem fact15 : (Rows.topTurnsTwoRow.mapsOut == Tryz.pinned.checked.prog.mapsAmong Tryz.f3.resultTypes.toList) = true := by kernel_rfl
theorem fact16 : (Rows.topTurnsTwoRow.loops == (Tryz.f3.params.toList ++ (OpenSpec.ofChange Rows.topTurnsTwoSpec).bare.plain.varTypes Tryz.pinned.checked.prog).any (Tryz.pinned.checked.prog.loopsFrom ·)) = true := by kernel_rfl
theorem fact17 : (Rows.topTurnsTwoRow.wideKeys == (Tryz.f3.params.toList ++ (OpenSpec.ofChange Rows.topTurnsTwoSpec).bare.plain.varTypes Tryz.pinned.checked.prog ++ Tryz.f3.resultTypes.toList).any (Tryz.pinned.checked.prog.wideKeysFrom ·)) = true := by kernel_rfl
theorem fact18 : (OpenSpec.ofChange Rows.topTurnsTwoSpec).bare.vars.all (Tryz.pinned.checked.prog.varReadable ·) = true := by kernel_rfl
theorem fact19 : Tryz.f3.resultTypes.all (fun t => Tryz.pinned.checked.prog.readableRec t && decide (t < Tryz.pinned.checked.prog.types.size)) = true := by kernel_rfl
theorem fact20 : (Rows.topTurnsTwoRow.ifacesOut == Tryz.f3.resultTypes.toList.any (Tryz.pinned.checked.prog.ifacesRec ·)) = true := by kernel_rfl
theorem fact21 : (Rows.topTurnsTwoRow.loopsOut == Tryz.f3.resultTypes.toList.any (Tryz.pinned.checked.prog.loopsFrom ·)) = true := by kernel_rfl
theorem fact22 : (Rows.topTurnsTwoRow.plainKeys == Tryz.pinned.checked.prog.plainKeys) = true := by kernel_rfl
theorem fact23 : Rows.topTurnsTwoRow.shortTexts.isNone = true := by kernel_rfl
theorem fact24 : Tryz.pinned.checked.prog.stopsHeard = true := by kernel_rfl
theorem fact25 : Tryz.pinned.checked.prog.mayEnter = true := by kernel_rfl
theorem fact26 : (Rows.topTurnsTwoRow.lifted == Tryz.pinned.checked.prog.liftsFinal) = true := by kernel_rfl
theorem fact27 : (Tryz.pinned.checked.prog.make == some Rows.topTurnsTwoRow.make) = true := by kernel_rfl
theorem fact28 : (Rows.topTurnsTwoRow.kinds == (if Rows.topTurnsTwoRow.domain.isEmpty then [] else Tryz.f3.params.toList.map fun t => match Tryz.pinned.checked.prog.underlying t with | some (.int k) => some k | _ => none)) = true := by kernel_rfl
theorem fact29 : (Rows.topTurnsTwoRow.pinned == Rows.topTurnsTwoRow.pinnedBy) = true := by kernel_rfl
theorem fact30 : (Rows.topTurnsTwoRow.veiled == (Tryz.f3.params.toList ++ (OpenSpec.ofChange Rows.topTurnsTwoSpec).bare.plain.varTypes Tryz.pinned.checked.prog ++ Tryz.f3.resultTypes.toList).any (Tryz.pinned.checked.prog.veiledRec ·)) = true := by kernel_rfl
theorem fact31 : Rows.topTurnsTwoRow.veiledFits Tryz.pinned.checked.prog Tryz.f3.params.toList (Tryz.f3.params.toList ++ (OpenSpec.ofChange Rows.topTurnsTwoSpec).bare.plain.varTypes Tryz.pinned.checked.prog ++ Tryz.f3.resultTypes.toList) = true := by kernel_rfl
theorem andI {a b : Bool} (h : a = true) (k : b = true) : (a && b) = true := by rw [h, k]; rfl
set_option maxRecDepth 100000 in
theorem closed : joinedFacts Tryz.pinned.checked.prog 3 Tryz.f3 (OpenSpec.ofChange Rows.topTurnsTwoSpec).bare Rows.topTurnsTwoRow = true := by
  unfold joinedFacts
  exact andI (andI (andI (andI (andI (andI (andI (andI (andI (andI (andI (andI (andI (andI (andI (andI (andI (andI (andI (andI (andI (andI (andI (andI (andI (andI (andI (andI (andI (andI (andI (fact0) fact1) fact2) fact3) fact4) fact5) fact6) fact7) fact8) fact9) fact10) fact11) fact12) fact13) fact14) fact15) fact16) fact17) fact18) fact19) fact20) fact21) fact22) fact23) fact24) fact25) fact26) fact27) fact28) fact29) fact30) fact31
end Go.Proofs.YtnbhohaphmilmaaGreatDoor.topTurnsTwoFacts
