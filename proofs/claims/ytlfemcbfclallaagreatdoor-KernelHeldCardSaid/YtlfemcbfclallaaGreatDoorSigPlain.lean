/- The kernel's block, by its cells. The walk of kernel.Start. Answers of calls, handed up: fail, Catch, Ask's closure, do. Signals: a set, what is sent, what comes next: in plain numbers. No program here. -/
import Derived.Test.YtlfemcbfclallaaGreatDoorSpA
import Derived.Test.YtlfemcbfclallaaGreatDoorProcWalk
import Derived.Test.YtlfemcbfclallaaGreatDoorForest
import Derived.Test.YtlfemcbfclallaaGreatDoorMake
import Derived.Defers
import Derived.Recover
import Derived.Tactics2
namespace Go.Proofs.YtlfemcbfclallaaGreatDoor
open Go.RowKit
set_option linter.unusedVariables false
set_option linter.unusedSimpArgs false
def kerA (c : Nat → Value) : Array Value := Array.ofFn (n := 655) (fun j => c j.val)
def upV (c : Nat → Value) (i : Nat) (v : Value) : Nat → Value := fun j => if j = i then v else c j
noncomputable def kz (j : Nat) : Value := (Tryz.zeroCells71[j]?).getD undef
theorem kerA_size (c) : (kerA c).size = 655 := by simp [kerA]
theorem kerA_get (c) {j : Nat} (h : j < 655) : (kerA c)[j]? = some (c j) := by simp [kerA, h]
theorem kerA_up (c) {i : Nat} (h : i < 655) (v : Value) : (kerA c).setIfInBounds i v = kerA (upV c i v) := by
  apply Array.ext_getElem?
  intro j
  rw [Array.getElem?_setIfInBounds]
  by_cases hj : j < 655
  · rw [kerA_get _ hj, kerA_get _ hj]
    unfold upV
    by_cases e : j = i
    · subst e; rw [if_pos rfl, if_pos rfl, if_pos (by rw [kerA_size]; exact h)]
    · rw [if_neg (fun q => e q.symm), if_neg e]
  · rw [if_neg (by omega), Array.getElem?_eq_none (by rw [kerA_size]; omega), Array.getElem?_eq_none (by rw [kerA_size]; omega)]
theorem kz_size : Tryz.zeroCells71.size = 655 := by kernel_rfl
theorem kerA_kz : kerA kz = Tryz.zeroCells71 := by
  apply Array.ext_getElem?
  intro j
  by_cases hj : j < 655
  · rw [kerA_get _ hj]
    unfold kz
    rw [Array.getElem?_eq_getElem (by rw [kz_size]; exact hj)]
    rfl
  · rw [Array.getElem?_eq_none (by rw [kerA_size]; omega), Array.getElem?_eq_none (by rw [kz_size]; omega)]
theorem bd_ker (ps : Array (Nat × Value)) : Instr.build 71 ps = bdR 71 ps := rfl
theorem bd_ker_run (w : World) (a b c d : Option Addr) : (bdR 71 #[(0, .int .i64 1), (3, .pointer a), (5, .pointer b), (6, .pointer c), (7, .pointer d)]).run Tryz.prog w = .ok (.agg (((((Tryz.zeroCells71.setIfInBounds 0 (.int .i64 1)).setIfInBounds 3 (.pointer a)).setIfInBounds 5 (.pointer b)).setIfInBounds 6 (.pointer c)).setIfInBounds 7 (.pointer d))) w := by kernel_rfl
theorem ker0 (a b c d : Option Addr) : ((((Tryz.zeroCells71.setIfInBounds 0 (.int .i64 1)).setIfInBounds 3 (.pointer a)).setIfInBounds 5 (.pointer b)).setIfInBounds 6 (.pointer c)).setIfInBounds 7 (.pointer d) = kerA (upV (upV (upV (upV (upV kz 0 (.int .i64 1)) 3 (.pointer a)) 5 (.pointer b)) 6 (.pointer c)) 7 (.pointer d)) := by
  rw [← kerA_kz, kerA_up _ (by decide), kerA_up _ (by decide), kerA_up _ (by decide), kerA_up _ (by decide), kerA_up _ (by decide)]
def KR (w : World) (K : Nat) (c : Nat → Value) : Prop := Row w K 71 (kerA c)
section
variable {w w' : World} {K : Nat} {c : Nat → Value}
theorem KR.cell (h : KR w K c) {j : Nat} (hj : j < 655) : w.cell? ⟨K, j, none⟩ = some (c j) := by rw [Row.cell h, kerA_get _ hj]
theorem KR.fz (h : KR w K c) (j : Nat) : w.frozen? ⟨K, j, none⟩ = false := Row.fz h j
theorem KR.keep (h : KR w K c) (hb : Below w.heap.size w w') : KR w' K c := Row.keep h hb
theorem KR.upd {S : Nat → Prop} (h : KR w K c) (hu : Upd S w w') (hn : ¬ S K) : KR w' K c := Row.upd h hu hn
theorem KR.kept {row : Option Nat} (h : KR w K c) (hg : w.grownBy w' row) (hn : some K ≠ row) : KR w' K c := Row.kept h hg hn
theorem KR.set (h : KR w K c) {i : Nat} (hi : i < 655) (v : Value) : KR (w.setCell ⟨K, i, none⟩ v) K (upV c i v) := by
  unfold KR
  rw [Row.setCell h, kerA_up _ hi]
  exact Row.setRow h _
theorem KR.lt (h : KR w K c) : K < w.heap.size := Row.lt h
end
end Go.Proofs.YtlfemcbfclallaaGreatDoor
namespace Go.Proofs.YtlfemcbfclallaaGreatDoor
open Go.RowKit Go.Maps
set_option linter.unusedVariables false
set_option linter.unusedSimpArgs false
theorem Upd.grownK {K : Nat} {w w' : World} (h : Upd (fun k => k = K) w w') : w.grownBy w' (some K) := ⟨h.os, h.tape, h.output, h.size, fun k hk hn => h.block k hk (fun e => hn (by rw [e]))⟩
theorem Below.grownN {w w' : World} (h : Below w.heap.size w w') (row : Option Nat) : w.grownBy w' row := ⟨h.os, h.tape, h.output, h.size, fun k hk _ => h.block k hk⟩
theorem IMap.lt {w : World} {b n : Nat} {f : Int → Option (Nat × Int)} (h : IMap w b n f) : b < w.heap.size := by
  obtain ⟨D, hD, _⟩ := h
  exact hD.lt
theorem size_setCell1 (w : World) (a : Addr) (v : Value) : (w.setCell a v).heap.size = w.heap.size := by simp [World.setCell]
theorem FSw.updB {S : Nat → Prop} {w w' : World} {B F D L a : Nat} (h : FSw w B F D L a) (hu : Upd S w w') (hS : ∀ k, S k → k < B) : FSw w' B F D L a := by
  have lt : ∀ {k o}, w.heap[k]? = some o → k < w.heap.size := fun h => (Array.getElem?_eq_some_iff.1 h).1
  obtain ⟨z, n, c, b, hF⟩ := h.f
  have n1 := h.f0
  have n2 := h.l0
  have n3 := h.a0
  exact ⟨⟨z, n, c, b, (hu.block F (lt hF) (fun q => by have := hS _ q; omega)).trans hF⟩, (hu.block L (lt h.l) (fun q => by have := hS _ q; omega)).trans h.l, (hu.block a (lt h.m) (fun q => by have := hS _ q; omega)).trans h.m, h.f0, h.l0, h.a0⟩
structure KP (w : World) (B P Wh Fi Pr K : Nat) : Prop where
  pi : Row w P 155 pipA
  wh : Row w Wh 158 #[.int .u32 0, .slice none 0 0]
  fi : OpenLaw.OTab w Fi (fun _ => OpenLaw.f0) (fun _ => 0)
  pr : ProcLaw.TabAt w Pr ProcLaw.start
  b : B ≤ P ∧ P < Wh ∧ Wh < Fi ∧ Fi < Pr ∧ Pr < K
theorem KP.keep {w w' : World} {B P Wh Fi Pr K : Nat} (h : KP w B P Wh Fi Pr K) (hb : Below w.heap.size w w') : KP w' B P Wh Fi Pr K := ⟨h.pi.keep hb, h.wh.keep hb, h.fi.keep hb, h.pr.keep hb, h.b⟩
theorem otab_keepB {w w' : World} {b B : Nat} {fs : Nat → OpenLaw.F} {fd : Nat → Nat} (h : OpenLaw.OTab w b fs fd) (hb : Below B w w') (hB : b < B) : OpenLaw.OTab w' b fs fd :=
  ⟨Nat.lt_of_lt_of_le h.lt hb.size, fun i => (hb.frozen (p := ⟨b, i, none⟩) hB).trans (h.fz i), h.le, fun k hk => (hb.cell (p := ⟨b, _, none⟩) hB).trans (h.c0 k hk), fun k hk => (hb.cell (p := ⟨b, _, none⟩) hB).trans (h.c1 k hk), fun k hk => (hb.cell (p := ⟨b, _, none⟩) hB).trans (h.c2 k hk), fun k hk => (hb.cell (p := ⟨b, _, none⟩) hB).trans (h.c3 k hk), fun k hk => (hb.cell (p := ⟨b, _, none⟩) hB).trans (h.c4 k hk), fun k hk => (hb.cell (p := ⟨b, _, none⟩) hB).trans (h.c5 k hk), fun p j hp hj => (hb.cell (p := ⟨b, _, none⟩) hB).trans (h.d p j hp hj)⟩
theorem tab_keepB {w w' : World} {b B : Nat} {t : ProcLaw.T} (h : ProcLaw.TabAt w b t) (hb : Below B w w') (hB : b < B) : ProcLaw.TabAt w' b t :=
  ⟨Nat.lt_of_lt_of_le h.lt hb.size, fun i => (hb.frozen (p := ⟨b, i, none⟩) hB).trans (h.fz i), fun k hk => (hb.cell (p := ⟨b, _, none⟩) hB).trans (h.st k hk), fun k hk => (hb.cell (p := ⟨b, _, none⟩) hB).trans (h.par k hk), fun k hk => (hb.cell (p := ⟨b, _, none⟩) hB).trans (h.gr k hk), fun k hk => (hb.cell (p := ⟨b, _, none⟩) hB).trans (h.code k hk)⟩
theorem KP.keepB {w w' : World} {B P Wh Fi Pr K : Nat} (h : KP w B P Wh Fi Pr K) (hb : Below K w w') : KP w' B P Wh Fi Pr K := by
  have b := h.b
  exact ⟨h.pi.keepB hb (by omega), h.wh.keepB hb (by omega), otab_keepB h.fi hb (by omega), tab_keepB h.pr hb (by omega), h.b⟩
structure KS (w : World) (B K P Wh Fi Pr R M so sp : Nat) (c : Nat → Value) : Prop where
  kp : KP w B P Wh Fi Pr K
  kr : KR w K c
  c1 : c 1 = .pointer (some ⟨M, 0, none⟩)
  c3 : c 3 = .pointer (some ⟨P, 0, none⟩)
  c4 : c 4 = .pointer (some ⟨R, 0, none⟩)
  c5 : c 5 = .pointer (some ⟨Wh, 0, none⟩)
  c6 : c 6 = .pointer (some ⟨Fi, 0, none⟩)
  c7 : c 7 = .pointer (some ⟨Pr, 0, none⟩)
  t0 : c 46 = .int .i64 1
  sg : ∀ j, j < 18 → c (65 + j) = kz (65 + j)
  sl : c 83 = .bool false
  mm : Row w M 179 #[.int .i64 64, .int .i64 64, .int .i64 0, .slice none 0 0, .map (some so)]
  om : OMap w so 1 (fun k => if k = 1 then some sp else none)
  im : IMap w sp 0 (fun _ => none)
  ru : ∃ T cc, RunG w R (some ⟨T, 0, none⟩) cc 1 0 (onePin 1) [⟨1, 0, true, 0⟩] ∧ sp < T
  or : K < R ∧ R < so ∧ so < M ∧ M < sp
  ck : ∀ j, 8 ≤ j → j ≠ 46 → (j < 56 ∨ 63 < j) → c j = kz j
  tk : c 56 = .int .i64 1 ∧ c 57 = .int .i64 0 ∧ c 58 = .int .i64 0 ∧ c 59 = .slice none 0 0 ∧ c 60 = .int .i64 127 ∧ c 61 = .int .i64 0 ∧ c 62 = .int .i64 0
  wd : ∃ b, c 63 = .slice (some ⟨b, 0, none⟩) 1 1 ∧ Row w b 3 #[.int .i64 1] ∧ sp < b
  fw : ∃ B0 F D L a, c 2 = .pointer (some ⟨F, 0, none⟩) ∧ FSw w B0 F D L a ∧ M < B0
end Go.Proofs.YtlfemcbfclallaaGreatDoor
namespace Go.Proofs.YtlfemcbfclallaaGreatDoor
open Go.RowKit
set_option linter.unusedVariables false
set_option linter.unusedSimpArgs false
structure OutOk (w0 : World) (Out : World → Array Value → World → Prop) : Prop where
  step : ∀ w w1 w2 b C X, Below w0.heap.size w0 w → Below w.heap.size w w1 → Out w1 X w2 → w.heap.size ≤ b → b < w1.heap.size → Out w X (w2.setRow b C)
  lift : ∀ w w1 w2 X, Below w0.heap.size w0 w → Below w.heap.size w w1 → Out w1 X w2 → Out w X w2
  keep : ∀ w X w2 w3, Out w X w2 → Below w2.heap.size w2 w3 → Out w X w3
def Res (w0 : World) (Out : World → Array Value → World → Prop) (w1 : World) (e : Ending) (w2 : World) : Prop :=
  ∃ X, e = .returned (.agg X) ∧ X.size = 11 ∧ X.all (·.oneCell') = true ∧ Upd (fun k => k < w0.heap.size) w1 w2 ∧ Out w1 X w2
def Spec (w0 : World) (Out : World → Array Value → World → Prop) (f : Nat) (args : Array Value) : Prop := ∀ w1, Below w0.heap.size w0 w1 → Calls Tryz.prog f args w1 (Res w0 Out w1)
def ansZ : Array Value := #[.int .i64 0, .int .i64 0, .int .i64 0, .slice none 0 0, .slice none 0 0, .int .i64 0, .int .i64 0, .int .i64 0, .int .i64 0, .int .i64 0, .int .i64 0]
def ansV (e a b : Int) (d : Value) : Array Value := #[.int .i64 e, .int .i64 a, .int .i64 b, d, .slice none 0 0, .int .i64 0, .int .i64 0, .int .i64 0, .int .i64 0, .int .i64 0, .int .i64 0]
theorem ansV_one (e a b : Int) {d : Value} (hd : d.oneCell' = true) : (ansV e a b d).all (·.oneCell') = true := by cases d <;> simp_all [ansV, Value.oneCell']
theorem ld_ans (v : Value) : Instr.loadAt 34 v = ldR 34 v := rfl
theorem st_ans (p v : Value) : Instr.storeAt 34 p v = stR 34 p v := rfl
theorem ld_call (v : Value) : Instr.loadAt 37 v = ldR 37 v := rfl
section
variable {w0 w w1 w2 : World} {Out : World → Array Value → World → Prop} {X C : Array Value} {b : Nat}
theorem OutOk.put (ok : OutOk w0 Out) (h0 : Below w0.heap.size w0 w) (h1 : Below w.heap.size w w1) (hu : Upd (fun k => k < w0.heap.size) w1 w2) (ho : Out w1 X w2) (hb : w.heap.size ≤ b) (hb1 : b < w1.heap.size) : Upd (fun k => k < w0.heap.size) w (w2.setRow b C) ∧ Out w X (w2.setRow b C) :=
  ⟨((Upd.below h1).trans hu).trans' (Upd.setRow w2 C (S := fun k => k = b) rfl) (fun i hi e => by omega), ok.step w w1 w2 b C X h0 h1 ho hb hb1⟩
theorem ans_row (h0 : Below w0.heap.size w0 w) (hr : Row w1 b 34 ansZ) (hb : w.heap.size ≤ b) (hu : Upd (fun k => k < w0.heap.size) w1 w2) : Row w2 b 34 ansZ := hr.upd hu (by have := h0.size; omega)
theorem ans_st (hr : Row w2 b 34 ansZ) (hX : X.size = 11) (h1 : X.all (·.oneCell') = true) : (stR 34 (.pointer (some ⟨b, 0, none⟩)) (.agg X)).run Tryz.prog w2 = .ok () (w2.setRow b X) := hr.st0 (by rw [hX]; rfl) (by rw [hX]; kernel_rfl) h1
theorem ans_ldV (hr : Row w2 b 34 ansZ) (hX : X.size = 11) : (loadVar 34 ⟨b, 0, none⟩).run Tryz.prog (w2.setRow b X) = .ok (.agg X) (w2.setRow b X) := (hr.setRow X).ldV Tryz.underlying34 rfl (by rw [hX]; kernel_rfl)
theorem cidle (p : Addr) (w : World) : CallsD Tryz.prog 37 #[.pointer (some p)] .returning w fun e u' w' => e = .returned (.tuple #[]) ∧ u' = .returning ∧ w' = w := by
  refine callsD_of_wpS Tryz.func37 rfl fun c₀ cs hu => ?_
  apply wpS_seq
  apply wpS_region
  simp [wpOpsS, go_sem, recoverD, hu, Tryz.ntmps37, Exit.thenS]
  apply wpS_seq
  apply wpS_region
  simp [wpOpsS, go_sem, recoverD, hu, Tryz.ntmps37, Exit.thenS]
  refine wpS_cond (t := false) (by simp [Act.eval, Array.replicate]) ?_
  simp only [Bool.false_eq_true, if_false]
  refine wpS_of_wp (wp_skip ?_)
  cases c₀
  simp_all [bodyPostS, results, Tryz.results37]
attribute [local go_sem ↓] ld_ans st_ans ld_call
set_option maxRecDepth 100000 in
set_option maxHeartbeats 400000 in
theorem catch_is (ok : OutOk w0 Out) (h0 : Below w0.heap.size w0 w) {p0 p1 p2 : Addr} (hc : ∀ w1, Below w.heap.size w w1 → Calls Tryz.prog 17 #[.pointer (some p0), .pointer (some p1), .pointer (some p2)] w1 (Res w0 Out w1)) :
    Calls Tryz.prog 16 #[.func (.func 17) #[] #[.pointer (some p0), .pointer (some p1), .pointer (some p2)]] w (Res w0 Out w) := by
  have hmf : ∀ (fn : Fn) (first cap : Array Value) (w : World), (Instr.makeFunc fn first cap).run Tryz.prog w = .ok (.func fn first cap) w := fun _ _ _ _ => rfl
  have HB := Lib.hid (Go.Joins.below_alloc1 w (.cells ansZ 34))
  have HR := Lib.hid (row_new w 34 ansZ)
  have HC := Lib.hid (hc _ HB.out)
  have HOK := Lib.hid ok
  have H0 := Lib.hid h0
  clear hc ok h0
  go_enter_defers Tryz.func16, Tryz.ntmps16
  go_wp2_with fail
  refine HC.out.mono ?_
  rintro e w2 ⟨X, rfl, hX, hone, hu, ho⟩
  have hr := ans_row H0.out HR.out (Nat.le_refl _) hu
  have hst := ans_st hr hX hone
  have HLD := Lib.hid (ans_ldV hr hX)
  have HP := Lib.hid (HOK.out.put (C := X) H0.out HB.out hu ho (Nat.le_refl _) HR.out.lt)
  have HX := Lib.hid (And.intro hX hone)
  clear hr hX hone hu ho HC HR
  generalize w2.setRow w.heap.size X = w3 at *
  go_wp2_with fail
  refine leaves_cons (f := 37) (args := #[.pointer (some ⟨w.heap.size, 0, none⟩)]) (by simp) (by simp [go_sem]) ?_
  refine (cidle ⟨w.heap.size, 0, none⟩ _).mono ?_
  rintro e u' w'' ⟨rfl, rfl, rfl⟩
  have hld := HLD.out
  simp only [Leaves, settle]
  exact ⟨.agg X, by rw [results_cell1 rfl]; simp [asAddr, Result.andThen, hld], X, rfl, HX.out.1, HX.out.2, HP.out.1, HP.out.2⟩
end
end Go.Proofs.YtlfemcbfclallaaGreatDoor
namespace Go.Proofs.YtlfemcbfclallaaGreatDoor.SigLaw
set_option linter.unusedSimpArgs false
set_option linter.unusedVariables false
structure G where
  p : Int
  m : Int
  h : Nat → Int
def fitB (x : Int) : Bool := (bits .andNot .i64 x 65534 == 0)
theorem fit_nat {x : Int} (h0 : -2 ^ 63 ≤ x) (h1 : x < 2 ^ 63) (h : fitB x = true) : ∃ n : Nat, x = n ∧ n < 65536 ∧ n.testBit 0 = false := by
  unfold fitB at h
  have h2 : bits .andNot .i64 x 65534 = 0 := by simpa using h
  have h3 : IntKind.i64.wrap ((BitVec.ofInt 64 x &&& ~~~BitVec.ofInt 64 65534).toNat : Int) = 0 := h2
  obtain ⟨b, hb⟩ : ∃ b, b = BitVec.ofInt 64 x := ⟨_, rfl⟩
  rw [← hb] at h3
  have h4 : (b &&& ~~~BitVec.ofInt 64 65534).toNat = 0 := by
    rw [IntKind.wrap_i64] at h3
    have := (b &&& ~~~BitVec.ofInt 64 65534).isLt
    omega
  have hbit : ∀ i, b.toNat.testBit i = true → i ≠ 0 ∧ i < 16 := by
    intro i hi
    have h5 : (b &&& ~~~BitVec.ofInt 64 65534).toNat.testBit i = false := by rw [h4]; simp
    rw [BitVec.testBit_toNat, BitVec.getLsbD_and, BitVec.getLsbD_not] at h5
    rw [BitVec.testBit_toNat] at hi
    have hlt : i < 64 := by
      rcases Nat.lt_or_ge i 64 with h | h
      · exact h
      · rw [BitVec.getLsbD_of_ge _ _ h] at hi; cases hi
    rw [hi] at h5
    simp [hlt] at h5
    have hex : ∀ i : Fin 64, (BitVec.ofInt 64 65534).getLsbD i.val = true → i.val ≠ 0 ∧ i.val < 16 := by decide +kernel
    exact hex ⟨i, hlt⟩ h5
  have hlt : b.toNat < 65536 := by
    apply Nat.lt_pow_two_of_testBit b.toNat (n := 16)
    intro i hi
    cases ht : b.toNat.testBit i
    · rfl
    · have := (hbit i ht).2; omega
  refine ⟨b.toNat, ?_, hlt, ?_⟩
  · have h6 : b.toInt = x := by
      rw [hb, BitVec.toInt_ofInt]
      apply Int.bmod_eq_of_le <;> omega
    rw [← h6, BitVec.toInt_eq_toNat_of_lt (by omega)]
  · cases ht : b.toNat.testBit 0
    · rfl
    · exact absurd rfl (hbit 0 ht).1
theorem nat_fit (n : Nat) (h : n < 65536) (h0 : n.testBit 0 = false) : fitB n = true := by
  unfold fitB
  rw [show (65534 : Int) = ((65534 : Nat) : Int) from rfl, i64_andNot n 65534 (by omega) (by decide)]
  have : less n 65534 = 0 := by
    rw [less_zero]
    intro i hi
    have hlt : i < 16 := by
      rcases Nat.lt_or_ge i 16 with h' | h'
      · exact h'
      · rw [Nat.testBit_lt_two_pow (Nat.lt_of_lt_of_le h (Nat.pow_le_pow_right (n := 2) (by decide) h'))] at hi; cases hi
    have h1 : i ≠ 0 := by rintro rfl; rw [h0] at hi; cases hi
    have hex : ∀ i : Fin 16, i.val ≠ 0 → (65534 : Nat).testBit i.val = true := by decide +kernel
    exact hex ⟨i, hlt⟩ h1
  rw [this]; rfl
theorem bit_is (n k : Nat) (h : n < 65536) : bits .and .i64 ((n : Int) / 2 ^ k) 1 = if n.testBit k = true then 1 else 0 := by
  have e : (n : Int) / 2 ^ k = ((n / 2 ^ k : Nat) : Int) := by norm_cast
  have hlt : n / 2 ^ k < 2 ^ 63 := Nat.lt_of_le_of_lt (Nat.div_le_self _ _) (by omega)
  rw [e, show (1 : Int) = ((1 : Nat) : Int) from rfl, i64_and _ _ hlt (by decide), Nat.and_one_is_mod, Nat.testBit_eq_decide_div_mod_eq]
  have : n / 2 ^ k % 2 = 0 ∨ n / 2 ^ k % 2 = 1 := by omega
  rcases this with h | h <;> simp [h]
theorem bit_eq (n k : Nat) (h : n < 65536) : (bits .and .i64 ((n : Int) / 2 ^ k) 1 == 1) = n.testBit k := by
  rw [bit_is n k h]
  cases n.testBit k <;> rfl
structure Right (g : G) (P M : Nat) : Prop where
  p : g.p = P
  m : g.m = M
  pl : P < 65536
  p0 : P.testBit 0 = false
  ml : M < 65536
  m0 : M.testBit 0 = false
  m9 : M.testBit 9 = false
  h : ∀ j, j < 16 → 0 ≤ g.h j
  h0 : g.h 0 = 0
  h9 : g.h 9 = 0
def good (g : G) : Prop := ∃ P M, Right g P M
theorem one_shift (k : Nat) (h : k < 16) : 1 <<< k < 65536 := by
  rw [Nat.one_shiftLeft]; exact Nat.pow_lt_pow_right (by decide) h
theorem less_lt (a b : Nat) (h : a < 65536) : less a b < 65536 := Nat.lt_of_le_of_lt (less_le a b) h
def deaf (g : G) (n : Nat) : Prop := g.h n = 1 ∨ (n = 7 ∧ g.h n = 0)
instance (g : G) (n : Nat) : Decidable (deaf g n) := by unfold deaf; infer_instance
end Go.Proofs.YtlfemcbfclallaaGreatDoor.SigLaw
