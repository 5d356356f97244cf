/- Answers of calls, handed up: fail, Catch, Ask's closure, do. Signals: a set, what is sent, what comes next: in plain numbers. No program here. -/
import Derived.Test.YtnbhohaphmilmaaGreatDoorStart
import Derived.Defers
import Derived.Recover
import Derived.Tactics2
import Derived.Test.YtnbhohaphmilmaaGreatDoorCodeRow
namespace Go.Proofs.YtnbhohaphmilmaaGreatDoor
open Go.RowKit
set_option linter.unusedVariables false
set_option linter.unusedSimpArgs false
/-- what may be said behind a call that answers -/
structure OutOk (w0 : World) (Out : World → Array Value → World → Prop) : Prop where
  step : ∀ w w1 w2 b C X, Below w0.heap.size w0 w → Below w.heap.size w w1 → Out w1 X w2 → w.heap.size ≤ b → b < w1.heap.size → Out w X (w2.setRow b C)
  lift : ∀ w w1 w2 X, Below w0.heap.size w0 w → Below w.heap.size w w1 → Out w1 X w2 → Out w X w2
  keep : ∀ w X w2 w3, Out w X w2 → Below w2.heap.size w2 w3 → Out w X w3
def Res (w0 : World) (Out : World → Array Value → World → Prop) (w1 : World) (e : Ending) (w2 : World) : Prop :=
  ∃ X, e = .returned (.agg X) ∧ X.size = 11 ∧ X.all (·.oneCell') = true ∧ Upd (fun k => k < w0.heap.size) w1 w2 ∧ Out w1 X w2
def Spec (w0 : World) (Out : World → Array Value → World → Prop) (f : Nat) (args : Array Value) : Prop := ∀ w1, Below w0.heap.size w0 w1 → Calls Tryz.prog f args w1 (Res w0 Out w1)
def ansZ : Array Value := #[.int .i64 0, .int .i64 0, .int .i64 0, .slice none 0 0, .slice none 0 0, .int .i64 0, .int .i64 0, .int .i64 0, .int .i64 0, .int .i64 0, .int .i64 0]
def ansV (e a b : Int) (d : Value) : Array Value := #[.int .i64 e, .int .i64 a, .int .i64 b, d, .slice none 0 0, .int .i64 0, .int .i64 0, .int .i64 0, .int .i64 0, .int .i64 0, .int .i64 0]
theorem ansV_one (e a b : Int) {d : Value} (hd : d.oneCell' = true) : (ansV e a b d).all (·.oneCell') = true := by cases d <;> simp_all [ansV, Value.oneCell']
theorem ld_ans (v : Value) : Instr.loadAt 59 v = ldR 59 v := rfl
theorem st_ans (p v : Value) : Instr.storeAt 59 p v = stR 59 p v := rfl
theorem ld_call (v : Value) : Instr.loadAt 62 v = ldR 62 v := rfl
section
variable {w0 w w1 w2 : World} {Out : World → Array Value → World → Prop} {X C : Array Value} {b : Nat}
theorem OutOk.put (ok : OutOk w0 Out) (h0 : Below w0.heap.size w0 w) (h1 : Below w.heap.size w w1) (hu : Upd (fun k => k < w0.heap.size) w1 w2) (ho : Out w1 X w2) (hb : w.heap.size ≤ b) (hb1 : b < w1.heap.size) : Upd (fun k => k < w0.heap.size) w (w2.setRow b C) ∧ Out w X (w2.setRow b C) :=
  ⟨((Upd.below h1).trans hu).trans' (Upd.setRow w2 C (S := fun k => k = b) rfl) (fun i hi e => by omega), ok.step w w1 w2 b C X h0 h1 ho hb hb1⟩
/-- a new answer's row behind a call -/
theorem ans_row (h0 : Below w0.heap.size w0 w) (hr : Row w1 b 59 ansZ) (hb : w.heap.size ≤ b) (hu : Upd (fun k => k < w0.heap.size) w1 w2) : Row w2 b 59 ansZ := hr.upd hu (by have := h0.size; omega)
theorem ans_st (hr : Row w2 b 59 ansZ) (hX : X.size = 11) (h1 : X.all (·.oneCell') = true) : (stR 59 (.pointer (some ⟨b, 0, none⟩)) (.agg X)).run Tryz.prog w2 = .ok () (w2.setRow b X) := hr.st0 (by rw [hX]; rfl) (by rw [hX]; kernel_rfl) h1
theorem ans_ldV (hr : Row w2 b 59 ansZ) (hX : X.size = 11) : (loadVar 59 ⟨b, 0, none⟩).run Tryz.prog (w2.setRow b X) = .ok (.agg X) (w2.setRow b X) := (hr.setRow X).ldV Tryz.underlying59 rfl (by rw [hX]; kernel_rfl)
theorem cidle (p : Addr) (w : World) : CallsD Tryz.prog 88 #[.pointer (some p)] .returning w fun e u' w' => e = .returned (.tuple #[]) ∧ u' = .returning ∧ w' = w := by
  refine callsD_of_wpS Tryz.func88 rfl fun c₀ cs hu => ?_
  apply wpS_seq
  apply wpS_region
  simp [wpOpsS, go_sem, recoverD, hu, Tryz.ntmps88, Exit.thenS]
  apply wpS_seq
  apply wpS_region
  simp [wpOpsS, go_sem, recoverD, hu, Tryz.ntmps88, Exit.thenS]
  refine wpS_cond (t := false) (by simp [Act.eval, Array.replicate]) ?_
  simp only [Bool.false_eq_true, if_false]
  refine wpS_of_wp (wp_skip ?_)
  cases c₀
  simp_all [bodyPostS, results, Tryz.results88]
attribute [local go_sem ↓] ld_ans st_ans ld_call
set_option maxRecDepth 100000 in
set_option maxHeartbeats 400000 in
theorem catch_is (ok : OutOk w0 Out) (h0 : Below w0.heap.size w0 w) {p0 p1 p2 : Addr} (hc : ∀ w1, Below w.heap.size w w1 → Calls Tryz.prog 41 #[.pointer (some p0), .pointer (some p1), .pointer (some p2)] w1 (Res w0 Out w1)) :
    Calls Tryz.prog 40 #[.func (.func 41) #[] #[.pointer (some p0), .pointer (some p1), .pointer (some p2)]] w (Res w0 Out w) := by
  have hmf : ∀ (fn : Fn) (first cap : Array Value) (w : World), (Instr.makeFunc fn first cap).run Tryz.prog w = .ok (.func fn first cap) w := fun _ _ _ _ => rfl
  have HB := Lib.hid (Go.Joins.below_alloc1 w (.cells ansZ 59))
  have HR := Lib.hid (row_new w 59 ansZ)
  have HC := Lib.hid (hc _ HB.out)
  have HOK := Lib.hid ok
  have H0 := Lib.hid h0
  clear hc ok h0
  go_enter_defers Tryz.func40, Tryz.ntmps40
  go_wp2_with fail
  refine HC.out.mono ?_
  rintro e w2 ⟨X, rfl, hX, hone, hu, ho⟩
  have hr := ans_row H0.out HR.out (Nat.le_refl _) hu
  have hst := ans_st hr hX hone
  have HLD := Lib.hid (ans_ldV hr hX)
  have HP := Lib.hid (HOK.out.put (C := X) H0.out HB.out hu ho (Nat.le_refl _) HR.out.lt)
  have HX := Lib.hid (And.intro hX hone)
  clear hr hX hone hu ho HC HR
  generalize w2.setRow w.heap.size X = w3 at *
  go_wp2_with fail
  refine leaves_cons (f := 88) (args := #[.pointer (some ⟨w.heap.size, 0, none⟩)]) (by simp) (by simp [go_sem]) ?_
  refine (cidle ⟨w.heap.size, 0, none⟩ _).mono ?_
  rintro e u' w'' ⟨rfl, rfl, rfl⟩
  have hld := HLD.out
  simp only [Leaves, settle]
  exact ⟨.agg X, by rw [results_cell1 rfl]; simp [asAddr, Result.andThen, hld], X, rfl, HX.out.1, HX.out.2, HP.out.1, HP.out.2⟩
end
end Go.Proofs.YtnbhohaphmilmaaGreatDoor
namespace Go.Proofs.YtnbhohaphmilmaaGreatDoor.SigLaw
set_option linter.unusedSimpArgs false
set_option linter.unusedVariables false

/-- pending, kept back, what is done with each of 16 -/
structure G where
  p : Int
  m : Int
  h : Nat → Int

/-- no bits beyond 1 to 15 -/
def fitB (x : Int) : Bool := (bits .andNot .i64 x 65534 == 0)
theorem fit_nat {x : Int} (h0 : -2 ^ 63 ≤ x) (h1 : x < 2 ^ 63) (h : fitB x = true) : ∃ n : Nat, x = n ∧ n < 65536 ∧ n.testBit 0 = false := by
  unfold fitB at h
  have h2 : bits .andNot .i64 x 65534 = 0 := by simpa using h
  have h3 : IntKind.i64.wrap ((BitVec.ofInt 64 x &&& ~~~BitVec.ofInt 64 65534).toNat : Int) = 0 := h2
  obtain ⟨b, hb⟩ : ∃ b, b = BitVec.ofInt 64 x := ⟨_, rfl⟩
  rw [← hb] at h3
  have h4 : (b &&& ~~~BitVec.ofInt 64 65534).toNat = 0 := by
    rw [IntKind.wrap_i64] at h3
    have := (b &&& ~~~BitVec.ofInt 64 65534).isLt
    omega
  have hbit : ∀ i, b.toNat.testBit i = true → i ≠ 0 ∧ i < 16 := by
    intro i hi
    have h5 : (b &&& ~~~BitVec.ofInt 64 65534).toNat.testBit i = false := by rw [h4]; simp
    rw [BitVec.testBit_toNat, BitVec.getLsbD_and, BitVec.getLsbD_not] at h5
    rw [BitVec.testBit_toNat] at hi
    have hlt : i < 64 := by
      rcases Nat.lt_or_ge i 64 with h | h
      · exact h
      · rw [BitVec.getLsbD_of_ge _ _ h] at hi; cases hi
    rw [hi] at h5
    simp [hlt] at h5
    have hex : ∀ i : Fin 64, (BitVec.ofInt 64 65534).getLsbD i.val = true → i.val ≠ 0 ∧ i.val < 16 := by decide +kernel
    exact hex ⟨i, hlt⟩ h5
  have hlt : b.toNat < 65536 := by
    apply Nat.lt_pow_two_of_testBit b.toNat (n := 16)
    intro i hi
    cases ht : b.toNat.testBit i
    · rfl
    · have := (hbit i ht).2; omega
  refine ⟨b.toNat, ?_, hlt, ?_⟩
  · have h6 : b.toInt = x := by
      rw [hb, BitVec.toInt_ofInt]
      apply Int.bmod_eq_of_le <;> omega
    rw [← h6, BitVec.toInt_eq_toNat_of_lt (by omega)]
  · cases ht : b.toNat.testBit 0
    · rfl
    · exact absurd rfl (hbit 0 ht).1
theorem nat_fit (n : Nat) (h : n < 65536) (h0 : n.testBit 0 = false) : fitB n = true := by
  unfold fitB
  rw [show (65534 : Int) = ((65534 : Nat) : Int) from rfl, i64_andNot n 65534 (by omega) (by decide)]
  have : less n 65534 = 0 := by
    rw [less_zero]
    intro i hi
    have hlt : i < 16 := by
      rcases Nat.lt_or_ge i 16 with h' | h'
      · exact h'
      · rw [Nat.testBit_lt_two_pow (Nat.lt_of_lt_of_le h (Nat.pow_le_pow_right (n := 2) (by decide) h'))] at hi; cases hi
    have h1 : i ≠ 0 := by rintro rfl; rw [h0] at hi; cases hi
    have hex : ∀ i : Fin 16, i.val ≠ 0 → (65534 : Nat).testBit i.val = true := by decide +kernel
    exact hex ⟨i, hlt⟩ h1
  rw [this]; rfl

theorem bit_is (n k : Nat) (h : n < 65536) : bits .and .i64 ((n : Int) / 2 ^ k) 1 = if n.testBit k = true then 1 else 0 := by
  have e : (n : Int) / 2 ^ k = ((n / 2 ^ k : Nat) : Int) := by norm_cast
  have hlt : n / 2 ^ k < 2 ^ 63 := Nat.lt_of_le_of_lt (Nat.div_le_self _ _) (by omega)
  rw [e, show (1 : Int) = ((1 : Nat) : Int) from rfl, i64_and _ _ hlt (by decide), Nat.and_one_is_mod, Nat.testBit_eq_decide_div_mod_eq]
  have : n / 2 ^ k % 2 = 0 ∨ n / 2 ^ k % 2 = 1 := by omega
  rcases this with h | h <;> simp [h]
theorem bit_eq (n k : Nat) (h : n < 65536) : (bits .and .i64 ((n : Int) / 2 ^ k) 1 == 1) = n.testBit k := by
  rw [bit_is n k h]
  cases n.testBit k <;> rfl

/-- a set that is right -/
structure Right (g : G) (P M : Nat) : Prop where
  p : g.p = P
  m : g.m = M
  pl : P < 65536
  p0 : P.testBit 0 = false
  ml : M < 65536
  m0 : M.testBit 0 = false
  m9 : M.testBit 9 = false
  h : ∀ j, j < 16 → 0 ≤ g.h j
  h0 : g.h 0 = 0
  h9 : g.h 9 = 0
def good (g : G) : Prop := ∃ P M, Right g P M

/-- how many bits among 0 to 15 -/
def pop (n : Nat) : Nat := (List.range 16).countP (fun i => n.testBit i)
theorem count_less (l : List Nat) (hn : l.Nodup) (q : Nat → Bool) (k : Nat) (hk : k ∈ l) (hq : q k = true) : l.countP (fun i => q i && !decide (i = k)) + 1 = l.countP q := by
  induction l with
  | nil => cases hk
  | cons x t ih =>
    rw [List.nodup_cons] at hn
    by_cases hx : x = k
    · subst hx
      rw [List.countP_cons_of_neg (by simp), List.countP_cons_of_pos hq]
      congr 1
      apply List.countP_congr
      intro y hy
      have : y ≠ x := fun e => hn.1 (e ▸ hy)
      simp [this]
    · have hk' : k ∈ t := by
        rcases List.mem_cons.1 hk with h | h
        · exact absurd h.symm hx
        · exact h
      have := ih hn.2 hk'
      by_cases hqx : q x = true
      · rw [List.countP_cons_of_pos (by simp [hqx, hx]), List.countP_cons_of_pos hqx]; omega
      · rw [List.countP_cons_of_neg (by simp [hqx]), List.countP_cons_of_neg hqx]; omega
theorem pop_less (n k : Nat) (hk : k < 16) (h : n.testBit k = true) : pop (less n (1 <<< k)) + 1 = pop n := by
  unfold pop
  rw [← count_less (List.range 16) List.nodup_range (fun i => n.testBit i) k (List.mem_range.2 hk) h]
  congr 2
  funext i
  rw [less_bit, Nat.one_shiftLeft, Nat.testBit_two_pow]
  by_cases e : k = i
  · subst e; simp
  · have e' : ¬ i = k := fun h => e h.symm
    simp [e, e']
theorem pop_le (n : Nat) : pop n ≤ 16 := by
  have := List.countP_le_length (p := fun i => n.testBit i) (l := List.range 16)
  simpa [pop] using this

theorem pop_lt (n : Nat) (h : n.testBit 0 = false) : pop n ≤ 15 := by
  unfold pop
  have : List.range 16 = 0 :: (List.range 15).map Nat.succ := by decide
  rw [this, List.countP_cons_of_neg (by simp [h])]
  have := List.countP_le_length (p := fun i => n.testBit i) (l := (List.range 15).map Nat.succ)
  simpa using this
theorem one_shift (k : Nat) (h : k < 16) : 1 <<< k < 65536 := by
  rw [Nat.one_shiftLeft]; exact Nat.pow_lt_pow_right (by decide) h
theorem less_lt (a b : Nat) (h : a < 65536) : less a b < 65536 := Nat.lt_of_le_of_lt (less_le a b) h
theorem less_bit0 (a b : Nat) (h : a.testBit 0 = false) : (less a b).testBit 0 = false := by rw [less_bit, h]; rfl
theorem or_bit0 (a k : Nat) (h : a.testBit 0 = false) (hk : 1 ≤ k) : (a ||| 1 <<< k).testBit 0 = false := by
  rw [Nat.testBit_or, h, Nat.one_shiftLeft, Nat.testBit_two_pow]
  simp; omega
theorem or_bit_same (a k : Nat) : (a ||| 1 <<< k).testBit k = true := by
  rw [Nat.testBit_or, Nat.one_shiftLeft, Nat.testBit_two_pow]; simp
theorem less_gone (a k : Nat) : (less a (1 <<< k)).testBit k = false := by
  rw [less_bit, Nat.one_shiftLeft, Nat.testBit_two_pow]; simp
theorem less_or (a k : Nat) (h : a.testBit k = true) : less a (1 <<< k) ||| 1 <<< k = a := by
  apply Nat.eq_of_testBit_eq
  intro i
  rw [Nat.testBit_or, less_bit, Nat.one_shiftLeft, Nat.testBit_two_pow]
  by_cases e : k = i
  · subst e; simp [h]
  · simp [e]
theorem or_or (a k : Nat) : a ||| 1 <<< k ||| 1 <<< k = a ||| 1 <<< k := by
  rw [Nat.or_assoc, Nat.or_self]

/-- nothing is done with signal n when it is sent -/
def deaf (g : G) (n : Nat) : Prop := g.h n = 1 ∨ (n = 7 ∧ g.h n = 0)
instance (g : G) (n : Nat) : Decidable (deaf g n) := by unfold deaf; infer_instance
/-- pending, when n was sent -/
def sentP (g : G) (P n : Nat) : Nat := if deaf g n then P else P ||| 1 <<< n
theorem sent_right {g : G} {P M n : Nat} (h : Right g P M) (h1 : 1 ≤ n) (h2 : n ≤ 15) : Right ⟨(sentP g P n : Nat), g.m, g.h⟩ (sentP g P n) M := by
  refine ⟨rfl, h.m, ?_, ?_, h.ml, h.m0, h.m9, h.h, h.h0, h.h9⟩
  · unfold sentP; split
    · exact h.pl
    · exact or_lt _ _ 16 h.pl (one_shift n (by omega))
  · unfold sentP; split
    · exact h.p0
    · exact or_bit0 _ _ h.p0 h1
theorem sentP_pos {g : G} {P n : Nat} (h : deaf g n) : sentP g P n = P := if_pos h
theorem sentP_neg {g : G} {P n : Nat} (h : ¬ deaf g n) : sentP g P n = P ||| 1 <<< n := if_neg h
theorem sent_twice (g : G) (P n : Nat) (x : Int) : sentP ⟨x, g.m, g.h⟩ (sentP g P n) n = sentP g P n := by
  by_cases hd : deaf g n
  · have hd2 : deaf ⟨x, g.m, g.h⟩ n := hd
    exact sentP_pos hd2
  · have hd2 : ¬ deaf ⟨x, g.m, g.h⟩ n := hd
    rw [sentP_neg hd2, sentP_neg hd]; exact or_or P n
theorem held_right {g : G} {P M k : Nat} (h : Right g P M) (hk : k < 65536) (hk0 : k.testBit 0 = false) : Right ⟨g.p, (less k 512 : Nat), g.h⟩ P (less k 512) := by
  refine ⟨h.p, rfl, h.pl, h.p0, less_lt _ _ hk, less_bit0 _ _ hk0, ?_, h.h, h.h0, h.h9⟩
  rw [show (512 : Nat) = 1 <<< 9 from rfl]; exact less_gone _ _
theorem taken_right {g : G} {P M k : Nat} (h : Right g P M) : Right ⟨(less P (1 <<< k) : Nat), g.m, g.h⟩ (less P (1 <<< k)) M :=
  ⟨rfl, h.m, less_lt _ _ h.pl, less_bit0 _ _ h.p0, h.ml, h.m0, h.m9, h.h, h.h0, h.h9⟩
end Go.Proofs.YtnbhohaphmilmaaGreatDoor.SigLaw
