/- cpu.Step, whole: what a step computes in a program's ring. -/
import Derived.Test.YtopadiofanaaiaaCpuStepD
import Derived.Test.YtopadiofanaaiaaCpuStepE
import Derived.Test.YtopadiofanaaiaaCpuStepF
import Derived.Test.YtopadiofanaaiaaCpuMemS
import Derived.Test.YtopadiofanaaiaaCodeDec
namespace Go.Proofs.Ytopadiofanaaiaa.CpuLaw
open Go.RowKit
set_option linter.unusedVariables false
set_option linter.unusedSimpArgs false
/-- what a step comes to -/
structure Out where
  g : G
  t : Int
  a : Nat
  m : M
def u32z (c : Int) : Nat := (c % 4294967296).toNat
def u16z (c : Int) : Nat := (c % 65536).toNat
def aluF (op : Int) (x y : Nat) : Nat :=
  if op = 5 then (x + y) % 4294967296 else if op = 6 then (x + 4294967296 - y) % 4294967296 else if op = 7 then x * y % 4294967296 else if op = 8 then x / y
  else if op = 9 then x &&& y else if op = 10 then x ||| y else if op = 11 then x ^^^ y else if op = 12 then x * 2 ^ (y % 32) % 4294967296 else x / 2 ^ (y % 32)
def memF (g : G) (m : M) (op : Int) (A B k : Nat) : Out :=
  if op = 15 then (if (fetchF m (up (g.r B) k) 1).2.1 = 0 then ⟨setR g A (fetchF m (up (g.r B) k) 1).1, 0, 0, m⟩ else ⟨g, (fetchF m (up (g.r B) k) 1).2.1, (fetchF m (up (g.r B) k) 1).2.2, m⟩)
  else if op = 16 then (if can m (up (g.r B) k) 1 then ⟨setR g A (byteAt m (up (g.r B) k)), 0, 0, m⟩ else ⟨g, 2, up (g.r B) k, m⟩)
  else if op = 17 then ⟨g, (putF m (up (g.r B) k) (g.r A)).2.1, (putF m (up (g.r B) k) (g.r A)).2.2, after m (up (g.r B) k) (g.r A) (putF m (up (g.r B) k) (g.r A)).1⟩
  else if op = 18 then (if canS m (up (g.r B) k) then ⟨g, 0, 0, setM m (idx m (up (g.r B) k)) (g.r A % 256)⟩ else ⟨g, 2, up (g.r B) k, m⟩)
  else if (fetchF m (up (g.r B) k) 1).2.1 = 0 then
    (if (putF m (up (g.r B) k) (g.r A)).2.1 = 0 then ⟨setR g A (fetchF m (up (g.r B) k) 1).1, 0, 0, after m (up (g.r B) k) (g.r A) (putF m (up (g.r B) k) (g.r A)).1⟩
     else ⟨g, (putF m (up (g.r B) k) (g.r A)).2.1, (putF m (up (g.r B) k) (g.r A)).2.2, after m (up (g.r B) k) (g.r A) (putF m (up (g.r B) k) (g.r A)).1⟩)
  else ⟨g, (fetchF m (up (g.r B) k) 1).2.1, (fetchF m (up (g.r B) k) 1).2.2, m⟩
def jumpF (g : G) (pc : Nat) (op : Int) (A B k : Nat) : G :=
  if op = 19 then ⟨g.r, up pc k, g.ring⟩ else if op = 20 then (if g.r A = 0 then ⟨g.r, up pc k, g.ring⟩ else g) else if op = 21 then (if g.r A < g.r B then ⟨g.r, up pc k, g.ring⟩ else g)
  else if op = 22 then ⟨(setR g A (up pc 4)).r, up pc k, g.ring⟩ else ⟨g.r, g.r A, g.ring⟩
def otherF (g : G) (op : Int) (A B : Nat) (C : Int) : G :=
  if op = 2 then setR g A (u32z C) else if op = 3 then setR g A (g.r A * 65536 % 4294967296 ||| u16z C) else if op = 4 then setR g A (g.r B) else if op = 14 then setR g A (up (g.r B) (u32z C)) else g
def nextG (g : G) : G := ⟨g.r, up g.pc 4, g.ring⟩
def execF (g : G) (m : M) (op : Int) (A B : Nat) (C : Int) : Out :=
  if 5 ≤ op ∧ op ≤ 13 then (if op = 8 ∧ g.r B = 0 then ⟨g, 4, 0, m⟩ else ⟨setR (nextG g) A (aluF op (g.r A) (g.r B)), 0, 0, m⟩)
  else if 15 ≤ op ∧ op ≤ 18 ∨ op = 25 then (if (memF (nextG g) m op A B (u32z C)).t = 0 then memF (nextG g) m op A B (u32z C) else { memF (nextG g) m op A B (u32z C) with g := g })
  else if 19 ≤ op ∧ op ≤ 23 then ⟨jumpF (nextG g) g.pc op A B (u32z C), 0, 0, m⟩
  else ⟨otherF (nextG g) op A B C, if op = 24 then 1 else 0, 0, m⟩
def stepF (g : G) (m : M) : Out :=
  if (fetchF m g.pc 4).2.1 = 0 then
    (if (CodeLaw.decR (fetchF m g.pc 4).1).2 = 0 ∧ (CodeLaw.decR (fetchF m g.pc 4).1).1.op ≠ 1 ∧ (CodeLaw.decR (fetchF m g.pc 4).1).1.op ≠ 26 then
      execF g m (CodeLaw.decR (fetchF m g.pc 4).1).1.op (CodeLaw.decR (fetchF m g.pc 4).1).1.a.toNat (CodeLaw.decR (fetchF m g.pc 4).1).1.b.toNat (CodeLaw.decR (fetchF m g.pc 4).1).1.c
     else ⟨g, 3, 0, m⟩)
  else ⟨g, (fetchF m g.pc 4).2.1, (fetchF m g.pc 4).2.2, m⟩
/-- all numbers fit -/
structure Good (g : G) : Prop where
  r : ∀ i, g.r i < 4294967296
  pc : g.pc < 4294967296
theorem conv_u32 (C : Int) (w : World) : (conv33 (.int .i64 C)).run Try.prog w = .ok (.int .u32 (u32z C)) w := by
  have e : IntKind.u32.wrap C = (u32z C : Int) := by rw [IntKind.wrap_u32]; unfold u32z; omega
  unfold conv33
  simp [go_sem, e]
theorem conv_u16 (C : Int) (w : World) : (conv83 (.int .i64 C)).run Try.prog w = .ok (.int .u16 (u16z C)) w := by
  have e : IntKind.u16.wrap C = (u16z C : Int) := by rw [CodeLaw.u16_wrap]; unfold u16z; omega
  unfold conv83
  simp [go_sem, e]
theorem u16z_lt (C : Int) : u16z C < 65536 := by unfold u16z; omega
theorem conv_1632 {k : Nat} (h : k < 65536) (w : World) : (conv8333 (.int .u16 k)).run Try.prog w = .ok (.int .u32 k) w := by
  have e : IntKind.u32.wrap (k : Int) = k := by rw [IntKind.wrap_u32]; omega
  unfold conv8333
  simp [go_sem, e]
theorem fetchF_zero {m : M} {a : Nat} {want : Int} (h : (fetchF m a want).2.1 = 0) : (fetchF m a want).2.2 = 0 := by
  unfold fetchF first4 at *
  repeat' split at h
  all_goals first | exact absurd (show (2 : Int) = 0 from h) (by decide) | (simp [*])
theorem putF_zero {m : M} {a x : Nat} (h : (putF m a x).2.1 = 0) : (putF m a x).2.2 = 0 := by
  unfold putF first4 at *
  repeat' split at h
  all_goals first | exact absurd (show (2 : Int) = 0 from h) (by decide) | (simp [*])
theorem up_u32' (a k : Nat) : ∀ w, (add33 (.int .u32 a) (.int .u32 k)).run Try.prog w = .ok (.int .u32 (up a k)) w := up_u32 a k
abbrev Does (w : World) (b c : Nat) (g : G) (m : M) (o : Out) : Prop := Calls Try.prog 28 #[.agg (cellsA g), bus b] w fun e w' => e = .returned (.tuple #[.agg (cellsA o.g), trap o.t o.a]) ∧ Off c w w' ∧ Room w' b c o.m
section
variable {w : World} {g : G} {m : M} {b c x A B : Nat} {C : Int}
theorem alu_go {op : Int} (hQ : Room w b c m) (HX : FetchIs b c m g.pc x 0 0) (HD : DecIs x op A B C 0) (hA : A < 8) (hB : B < 8) (h5 : 5 ≤ op) (h13 : op ≤ 13) (hn : ¬ (op = 8 ∧ g.r B = 0)) {z : Nat} (hz : aluF op (g.r A) (g.r B) = z)
    (HR : ∀ w1, Calls Try.prog 39 #[.int .i64 op, .int .u32 (g.r A), .int .u32 (g.r B)] w1 fun e w' => e = .returned (.tuple #[.int .u32 z, .bool true]) ∧ w1 = w') : Does w b c g m (execF g m op A B C) := by
  rw [execF, if_pos ⟨h5, h13⟩, if_neg hn, hz]
  exact step_reckon (m' := m) (t := 0) hQ HX HD hA hB (up_u32' g.pc 4) (by simp; omega) (by simp; omega) h5 h13 (decide_eq_true h5) (decide_eq_true h13) (fun w1 => (HR w1).mono fun e w' h => ⟨h.1, h.2.symm⟩)
theorem shl_cast (a k : Nat) : ((a : Int) * 2 ^ k) % 4294967296 = ((a * 2 ^ k % 4294967296 : Nat) : Int) := by
  have e : ((a : Int) * 2 ^ k) = ((a * 2 ^ k : Nat) : Int) := by
    rw [Int.natCast_mul, Int.natCast_pow]
    rfl
  rw [e]
  generalize a * 2 ^ k = n
  omega
theorem shl_ok (a b : Nat) (w : World) : (shl33 (.int .u32 a) (.int .u32 ((b : Int) % 32))).run Try.prog w = .ok (.int .u32 ((a * 2 ^ (b % 32) % 4294967296 : Nat) : Int)) w := by
  have := shl_u32 (x := a) (y := b % 32) (k := 0) (z := a * 2 ^ (b % 32) % 4294967296) (Nat.mod_lt _ (by decide)) (shl_cast a _) w
  have e : ((b % 32 : Nat) : Int) = (b : Int) % 32 := by omega
  rw [e] at this
  exact this
theorem shr_ok (a b : Nat) (w : World) : (shr33 (.int .u32 a) (.int .u32 ((b : Int) % 32))).run Try.prog w = .ok (.int .u32 ((a / 2 ^ (b % 32) : Nat) : Int)) w := by
  have := shr_u32 (x := a) (y := b % 32) (k := 0) (z := a / 2 ^ (b % 32)) (Nat.mod_lt _ (by decide)) rfl w
  have e : ((b % 32 : Nat) : Int) = (b : Int) % 32 := by omega
  rw [e] at this
  exact this
theorem aluF5 (x y : Nat) : aluF 5 x y = (x + y) % 4294967296 := by rw [aluF, if_pos rfl]
theorem aluF6 (x y : Nat) : aluF 6 x y = (x + 4294967296 - y) % 4294967296 := by rw [aluF, if_neg (by decide), if_pos rfl]
theorem aluF7 (x y : Nat) : aluF 7 x y = x * y % 4294967296 := by rw [aluF, if_neg (by decide), if_neg (by decide), if_pos rfl]
theorem aluF8 (x y : Nat) : aluF 8 x y = x / y := by rw [aluF, if_neg (by decide), if_neg (by decide), if_neg (by decide), if_pos rfl]
theorem aluF9 (x y : Nat) : aluF 9 x y = x &&& y := by rw [aluF, if_neg (by decide), if_neg (by decide), if_neg (by decide), if_neg (by decide), if_pos rfl]
theorem aluF10 (x y : Nat) : aluF 10 x y = x ||| y := by rw [aluF, if_neg (by decide), if_neg (by decide), if_neg (by decide), if_neg (by decide), if_neg (by decide), if_pos rfl]
theorem aluF11 (x y : Nat) : aluF 11 x y = x ^^^ y := by rw [aluF, if_neg (by decide), if_neg (by decide), if_neg (by decide), if_neg (by decide), if_neg (by decide), if_neg (by decide), if_pos rfl]
theorem aluF12 (x y : Nat) : aluF 12 x y = x * 2 ^ (y % 32) % 4294967296 := by rw [aluF, if_neg (by decide), if_neg (by decide), if_neg (by decide), if_neg (by decide), if_neg (by decide), if_neg (by decide), if_neg (by decide), if_pos rfl]
theorem aluF13 (x y : Nat) : aluF 13 x y = x / 2 ^ (y % 32) := by rw [aluF, if_neg (by decide), if_neg (by decide), if_neg (by decide), if_neg (by decide), if_neg (by decide), if_neg (by decide), if_neg (by decide), if_neg (by decide)]
theorem alu_is {op : Int} (hQ : Room w b c m) (hg : Good g) (HX : FetchIs b c m g.pc x 0 0) (HD : DecIs x op A B C 0) (hA : A < 8) (hB : B < 8) (h5 : 5 ≤ op) (h13 : op ≤ 13) : Does w b c g m (execF g m op A B C) := by
  have ga := hg.r A
  have gb := hg.r B
  by_cases hn : op = 8 ∧ g.r B = 0
  · obtain ⟨rfl, hb0⟩ := hn
    rw [execF, if_pos ⟨h5, h13⟩, if_pos ⟨rfl, hb0⟩]
    exact step_zero (m' := m) (t := 0) hQ HX HD hA hB (up_u32' g.pc 4) rfl rfl h5 h13 rfl rfl (fun w1 => (reckon_zero (by simp [hb0])).mono fun e w' h => ⟨h.1, h.2.symm⟩)
  · have hop : op = 5 ∨ op = 6 ∨ op = 7 ∨ op = 8 ∨ op = 9 ∨ op = 10 ∨ op = 11 ∨ op = 12 ∨ op = 13 := by omega
    rcases hop with rfl | rfl | rfl | rfl | rfl | rfl | rfl | rfl | rfl
    · exact alu_go hQ HX HD hA hB h5 h13 hn (aluF5 _ _) (fun w1 => reckon_5 (fun w => add_u32 (by omega) w))
    · exact alu_go hQ HX HD hA hB h5 h13 hn (z := (g.r A + 4294967296 - g.r B) % 4294967296) (aluF6 _ _) (fun w1 => reckon_6 (fun w => sub_u32 (by omega) w))
    · exact alu_go hQ HX HD hA hB h5 h13 hn (z := g.r A * g.r B % 4294967296) (aluF7 _ _) (fun w1 => reckon_7 (fun w => mul_u32 rfl w))
    · exact alu_go hQ HX HD hA hB h5 h13 hn (z := g.r A / g.r B) (aluF8 _ _) (fun w1 => reckon_8 (fun w => quo_u32 (fun e => hn ⟨rfl, e⟩) ga rfl w) (by simpa using fun e => hn ⟨rfl, e⟩))
    · exact alu_go hQ HX HD hA hB h5 h13 hn (z := g.r A &&& g.r B) (aluF9 _ _) (fun w1 => reckon_9 (fun w => and_u32 ga gb rfl w))
    · exact alu_go hQ HX HD hA hB h5 h13 hn (z := g.r A ||| g.r B) (aluF10 _ _) (fun w1 => reckon_10 (fun w => or_u32 ga gb rfl w))
    · exact alu_go hQ HX HD hA hB h5 h13 hn (z := g.r A ^^^ g.r B) (aluF11 _ _) (fun w1 => reckon_11 (fun w => xor_u32 ga gb rfl w))
    · exact alu_go hQ HX HD hA hB h5 h13 hn (z := g.r A * 2 ^ (g.r B % 32) % 4294967296) (aluF12 _ _) (fun w1 => reckon_12 (shl_ok _ _))
    · exact alu_go hQ HX HD hA hB h5 h13 hn (z := g.r A / 2 ^ (g.r B % 32)) (aluF13 _ _) (fun w1 => reckon_13 (shr_ok _ _))
abbrev MemIs (b c : Nat) (gn : G) (m : M) (op : Int) (A B : Nat) (C : Int) (o : Out) : Prop := ∀ w1 rb, rb ≠ b → rb ≠ c → Row w1 rb gn → Room w1 b c m → Calls Try.prog 40 #[.pointer (some ⟨rb, 0, none⟩), insA op A B C, bus b] w1 fun e w' => e = .returned (trap o.t o.a) ∧ Off2 rb c w1 w' ∧ Row w' rb o.g ∧ Room w' b c o.m
theorem up_lt' (a k : Nat) : up a k < 4294967296 := up_lt a k
theorem mem_is {op : Int} (hg : Good g) (hA : A < 8) (hB : B < 8) (hop : 15 ≤ op ∧ op ≤ 18 ∨ op = 25) : MemIs b c g m op A B C (memF g m op A B (u32z C)) := by
  intro w1 rb q0 q1 hR hQ
  have F : ∀ (a : Nat), a < 4294967296 → ∀ w1, Room w1 b c m → Calls Try.prog 38 #[bus b, .int .u32 a, .int .i64 1] w1 fun e w' => e = .returned (.tuple #[.int .u32 (fetchF m a 1).1, trap (fetchF m a 1).2.1 (fetchF m a 1).2.2]) ∧ Below w1.heap.size w1 w' := fun a ha w1 hr => fetch_is hr ha
  have P : ∀ (a : Nat) (x : Nat), a < 4294967296 → ∀ w1, Room w1 b c m → Calls Try.prog 46 #[bus b, .int .u32 a, .int .u32 x] w1 fun e w' => e = .returned (trap (putF m a x).2.1 (putF m a x).2.2) ∧ Off c w1 w' ∧ Room w' b c (after m a x (putF m a x).1) := fun a x ha w1 hr => put_is hr ha
  have hop : op = 15 ∨ op = 16 ∨ op = 17 ∨ op = 18 ∨ op = 25 := by omega
  have ht := up_u32' (g.r B) (u32z C)
  have hc := conv_u32 C
  have hl := up_lt (g.r B) (u32z C)
  generalize htt : up (g.r B) (u32z C) = tt at *
  rcases hop with rfl | rfl | rfl | rfl | rfl
  · have hv : memF g m 15 A B (u32z C) = (if (fetchF m tt 1).2.1 = 0 then ⟨setR g A (fetchF m tt 1).1, 0, 0, m⟩ else ⟨g, (fetchF m tt 1).2.1, (fetchF m tt 1).2.2, m⟩) := by rw [← htt, memF, if_pos rfl]
    rw [hv]
    by_cases h : (fetchF m tt 1).2.1 = 0
    · have h2 := fetchF_zero h
      have FF := F tt hl
      rw [h, h2] at FF
      rw [if_pos h]
      exact mem_load (m' := m) (t := 0) hR hQ q0 q1 hA hB hc ht FF
    · rw [if_neg h]
      exact mem_load_bad (m' := m) hR hQ q0 q1 hA hB hc ht (F tt hl) (by simpa using h)
  · have hv : memF g m 16 A B (u32z C) = (if can m tt 1 then ⟨setR g A (byteAt m tt), 0, 0, m⟩ else ⟨g, 2, tt, m⟩) := by rw [← htt, memF, if_neg (by decide), if_pos rfl]
    rw [hv]
    by_cases h : can m tt 1
    · rw [if_pos h]
      exact mem_loadb (m' := m) (t := 0) hR hQ q0 q1 hA hB hc ht (fun w1 hr => load_yes hr h) (v_ok (hQ.fl _))
    · rw [if_neg h]
      exact mem_loadb_bad (m' := m) (t := 0) hR hQ q0 q1 hA hB hc ht (fun w1 hr => load_no hr h)
  · have hv : memF g m 17 A B (u32z C) = ⟨g, (putF m tt (g.r A)).2.1, (putF m tt (g.r A)).2.2, after m tt (g.r A) (putF m tt (g.r A)).1⟩ := by rw [← htt, memF, if_neg (by decide), if_neg (by decide), if_pos rfl]
    rw [hv]
    exact mem_store hR hQ q0 q1 hA hB hc ht (P tt (g.r A) hl)
  · have hv : memF g m 18 A B (u32z C) = (if canS m tt then ⟨g, 0, 0, setM m (idx m tt) (g.r A % 256)⟩ else ⟨g, 2, tt, m⟩) := by rw [← htt, memF, if_neg (by decide), if_neg (by decide), if_neg (by decide), if_pos rfl]
    rw [hv]
    by_cases h : canS m tt
    · rw [if_pos h]
      refine mem_storeb (t := 0) (x := g.r A % 256) hR hQ q0 q1 hA hB hc ht (fun w1 hr => ?_) (narrow_u8 rfl)
      refine (store_yes hr h (Nat.mod_lt _ (by decide))).mono ?_
      rintro e w' ⟨rfl, rfl, h2⟩
      exact ⟨rfl, Off.set _ _, h2⟩
    · rw [if_neg h]
      refine mem_storeb_bad (m' := m) (t := 0) (x := g.r A % 256) hR hQ q0 q1 hA hB hc ht (fun w1 hr => ?_) (narrow_u8 rfl)
      refine (store_no hr h).mono ?_
      rintro e w' ⟨rfl, rfl⟩
      exact ⟨rfl, Off.refl _ _, hr⟩
  · have hv : memF g m 25 A B (u32z C) = (if (fetchF m tt 1).2.1 = 0 then
    (if (putF m tt (g.r A)).2.1 = 0 then ⟨setR g A (fetchF m tt 1).1, 0, 0, after m tt (g.r A) (putF m tt (g.r A)).1⟩
     else ⟨g, (putF m tt (g.r A)).2.1, (putF m tt (g.r A)).2.2, after m tt (g.r A) (putF m tt (g.r A)).1⟩)
     else ⟨g, (fetchF m tt 1).2.1, (fetchF m tt 1).2.2, m⟩) := by rw [← htt, memF, if_neg (by decide), if_neg (by decide), if_neg (by decide), if_neg (by decide)]
    rw [hv]
    by_cases h : (fetchF m tt 1).2.1 = 0
    · have h2 := fetchF_zero h
      have FF := F tt hl
      rw [h, h2] at FF
      rw [if_pos h]
      by_cases h3 : (putF m tt (g.r A)).2.1 = 0
      · have h4 := putF_zero h3
        have PP := P tt (g.r A) hl
        rw [h3, h4] at PP
        rw [if_pos h3]
        exact mem_swap (t := 0) hR hQ q0 q1 hA hB hc ht FF PP
      · rw [if_neg h3]
        exact mem_swap_p hR hQ q0 q1 hA hB hc ht FF (P tt (g.r A) hl) (by simpa using h3)
    · rw [if_neg h]
      exact mem_swap_f (m' := m) hR hQ q0 q1 hA hB hc ht (F tt hl) (by simpa using h)
theorem memF_zero {op : Int} {k : Nat} (h : (memF g m op A B k).t = 0) : (memF g m op A B k).a = 0 := by
  unfold memF at *
  split at h
  · rename_i h1; rw [if_pos h1]
    split at h
    · rename_i h2; rw [if_pos h2]
    · rename_i h2; exact absurd h h2
  · rename_i h1; rw [if_neg h1]
    split at h
    · rename_i h1; rw [if_pos h1]
      split at h
      · rename_i h2; rw [if_pos h2]
      · exact absurd (show (2 : Int) = 0 from h) (by decide)
    · rename_i h1; rw [if_neg h1]
      split at h
      · rename_i h1; rw [if_pos h1]; exact putF_zero h
      · rename_i h1; rw [if_neg h1]
        split at h
        · rename_i h1; rw [if_pos h1]
          split at h
          · rename_i h2; rw [if_pos h2]
          · exact absurd (show (2 : Int) = 0 from h) (by decide)
        · rename_i h1; rw [if_neg h1]
          split at h
          · rename_i h1; rw [if_pos h1]
            split at h
            · rename_i h2; rw [if_pos h2]
            · rename_i h2; exact absurd h h2
          · rename_i h1; exact absurd h h1
theorem memo_is {op : Int} (hQ : Room w b c m) (hg : Good g) (HX : FetchIs b c m g.pc x 0 0) (HD : DecIs x op A B C 0) (hA : A < 8) (hB : B < 8) (hop : 15 ≤ op ∧ op ≤ 18 ∨ op = 25) : Does w b c g m (execF g m op A B C) := by
  have hgn : Good (nextG g) := ⟨hg.r, up_lt _ _⟩
  have HM := mem_is (b := b) (c := c) (m := m) (C := C) hgn hA hB hop
  have hz := memF_zero (g := nextG g) (m := m) (op := op) (A := A) (B := B) (k := u32z C)
  rw [execF, if_neg (by omega), if_pos hop]
  generalize memF (nextG g) m op A B (u32z C) = o at *
  obtain ⟨og, ot, oa, om⟩ := o
  by_cases h : ot = 0
  · have h2 : oa = 0 := hz h
    subst h; subst h2
    rw [if_pos rfl]
    rcases hop with ⟨h15, h18⟩ | rfl
    · exact step_mem (m' := om) (t := 0) (g3 := og) hQ HX HD hA hB (up_u32' g.pc 4) (by simp; omega) (by simp; omega) h15 h18 (decide_eq_true (by omega)) (decide_eq_false (by omega)) (decide_eq_true h15) (decide_eq_true h18) HM
    · exact step_swap (m' := om) (t := 0) (g3 := og) hQ HX HD hA hB (up_u32' g.pc 4) HM
  · rw [if_neg h]
    rcases hop with ⟨h15, h18⟩ | rfl
    · exact step_mem_no (m' := om) (t := ot) (g3 := og) hQ HX HD hA hB (up_u32' g.pc 4) (by simp; omega) (by simp; omega) h15 h18 (decide_eq_true (by omega)) (decide_eq_false (by omega)) (decide_eq_true h15) (decide_eq_true h18) (by simpa using h) HM
    · exact step_swap_no (m' := om) (t := ot) (g3 := og) hQ HX HD hA hB (up_u32' g.pc 4) (by simpa using h) HM
theorem jumpo_is {op : Int} (hQ : Room w b c m) (hg : Good g) (HX : FetchIs b c m g.pc x 0 0) (HD : DecIs x op A B C 0) (hA : A < 8) (hB : B < 8) (h19 : 19 ≤ op) (h23 : op ≤ 23) : Does w b c g m (execF g m op A B C) := by
  have HJ : ∀ w1 rb, Row w1 rb (nextG g) → Calls Try.prog 41 #[.pointer (some ⟨rb, 0, none⟩), insA op A B C, .int .u32 g.pc] w1 fun e w' => e = .returned (.tuple #[]) ∧ Off rb w1 w' ∧ Row w' rb (jumpF (nextG g) g.pc op A B (u32z C)) := by
    intro w1 rb hR
    have ht := up_u32' g.pc (u32z C)
    have hc := conv_u32 C
    have hop : op = 19 ∨ op = 20 ∨ op = 21 ∨ op = 22 ∨ op = 23 := by omega
    rcases hop with rfl | rfl | rfl | rfl | rfl
    · exact jump_jump hR hA hB hc ht
    · have hv : jumpF (nextG g) g.pc 20 A B (u32z C) = (if g.r A = 0 then ⟨g.r, up g.pc (u32z C), g.ring⟩ else nextG g) := rfl
      rw [hv]
      by_cases h : g.r A = 0
      · rw [if_pos h]
        exact jump_zeroY (g := nextG g) hR hA hB hc ht (by show ((g.r A : Int) == 0) = true; rw [h]; rfl)
      · rw [if_neg h]
        exact jump_zeroN (g := nextG g) hR hA hB hc ht (by show ((g.r A : Int) == 0) = false; simpa using h)
    · have hv : jumpF (nextG g) g.pc 21 A B (u32z C) = (if g.r A < g.r B then ⟨g.r, up g.pc (u32z C), g.ring⟩ else nextG g) := rfl
      rw [hv]
      by_cases h : g.r A < g.r B
      · rw [if_pos h]
        exact jump_lessY (g := nextG g) hR hA hB hc ht h (decide_eq_true h)
      · rw [if_neg h]
        exact jump_lessN (g := nextG g) hR hA hB hc ht h (decide_eq_false h)
    · exact jump_call hR hA hB hc ht (up_u32' g.pc 4)
    · exact jump_back hR hA hB hc ht
  rw [execF, if_neg (by omega), if_neg (by omega), if_pos ⟨h19, h23⟩]
  exact step_jump (m' := m) (t := 0) (g3 := jumpF (nextG g) g.pc op A B (u32z C)) hQ HX HD hA hB (up_u32' g.pc 4) (by simp; omega) (by simp; omega) h19 h23 (decide_eq_true (by omega)) (decide_eq_false (by omega)) (decide_eq_true (by omega)) (decide_eq_false (by omega)) (by simp; omega) (decide_eq_true h19) (decide_eq_true h23) HJ
theorem shl16_ok (a : Nat) (w : World) : (shl33 (.int .u32 a) (.int .u64 16)).run Try.prog w = .ok (.int .u32 ((a * 65536 % 4294967296 : Nat) : Int)) w := by
  unfold shl33
  simp [go_sem, IntKind.wrap, IntKind.bits, IntKind.signed]
theorem othero_is {op : Int} (hQ : Room w b c m) (hg : Good g) (HX : FetchIs b c m g.pc x 0 0) (HD : DecIs x op A B C 0) (hA : A < 8) (hB : B < 8) (hop : op = 2 ∨ op = 3 ∨ op = 4 ∨ op = 14 ∨ op = 24) : Does w b c g m (execF g m op A B C) := by
  have hP := up_u32' g.pc 4
  rcases hop with rfl | rfl | rfl | rfl | rfl
  · exact step_other2 (m' := m) (t := 0) (g3 := otherF (nextG g) 2 A B C) hQ HX HD hA hB hP (fun w1 => other_set hA hB (conv_u32 C))
  · exact step_other3 (m' := m) (t := 0) (g3 := otherF (nextG g) 3 A B C) hQ HX HD hA hB hP (fun w1 => other_high (g := nextG g) hA hB (conv_u16 C) (conv_1632 (u16z_lt C)) (shl16_ok _) (or_u32 (Nat.mod_lt _ (by decide)) (by have := u16z_lt C; omega) rfl))
  · exact step_other4 (m' := m) (t := 0) (g3 := otherF (nextG g) 4 A B C) hQ HX HD hA hB hP (fun w1 => other_move hA hB)
  · exact step_other14 (m' := m) (t := 0) (g3 := otherF (nextG g) 14 A B C) hQ HX HD hA hB hP (fun w1 => other_plus (g := nextG g) hA hB (conv_u32 C) (up_u32' _ _))
  · exact step_other24 (m' := m) (t := 1) (g3 := otherF (nextG g) 24 A B C) hQ HX HD hA hB hP (fun w1 => other_sys hA hB)
theorem dec_fields {x : Int} (h : (CodeLaw.decR x).2 = 0) : ∃ (op : Int) (A B : Nat) (C : Int), CodeLaw.decR x = (⟨op, A, B, C⟩, 0) ∧ 1 ≤ op ∧ op ≤ 26 ∧ A < 8 ∧ B < 8 ∧ -32768 ≤ C ∧ C ≤ 32767 := by
  have hf := CodeLaw.forth h
  have h2 := CodeLaw.encR_zero (op := (CodeLaw.decR x).1.op) (a := (CodeLaw.decR x).1.a) (b := (CodeLaw.decR x).1.b) (c := (CodeLaw.decR x).1.c) (by have := congrArg Prod.snd hf; exact this)
  obtain ⟨⟨o1, o2⟩, hi, _⟩ := h2
  obtain ⟨a1, a2, b1, b2, c1, c2⟩ := hi
  generalize CodeLaw.decR x = d at *
  obtain ⟨⟨op, a, b, c⟩, e⟩ := d
  simp only at *
  subst h
  refine ⟨op, a.toNat, b.toNat, c, ?_, o1, o2, by omega, by omega, c1, c2⟩
  rw [Int.toNat_of_nonneg a1, Int.toNat_of_nonneg b1]
theorem Room.word {w : World} {b c : Nat} {m : M} (h : Room w b c m) (a : Nat) (want : Int) : (fetchF m a want).1 < 4294967296 := by
  have h0 := h.byte a
  have h1 := h.byte (up a 1)
  have h2 := h.byte (up a 2)
  have h3 := h.byte (up a 3)
  unfold fetchF first4
  repeat' split
  all_goals (try unfold wordAt)
  all_goals simp only
  all_goals omega
theorem dec_any {x : Nat} (hx : x < 4294967296) {op C e : Int} {A B : Nat} (h : CodeLaw.decR x = (⟨op, A, B, C⟩, e)) : DecIs x op A B C e := by
  intro w1
  have := CodeLaw.dec_is (x : Int) w1 (by omega) (by omega)
  rw [h] at this
  exact this
/-- a step, in a program's ring -/
theorem step_is (hQ : Room w b c m) (hg : Good g) (hr : g.ring ≠ 0) : Does w b c g m (stepF g m) := by
  have HX : FetchIs b c m g.pc (fetchF m g.pc 4).1 (fetchF m g.pc 4).2.1 (fetchF m g.pc 4).2.2 := fun w1 hr => fetch_is hr hg.pc
  have hr' : (g.ring != 0) = true := by simpa using hr
  have hz := fetchF_zero (m := m) (a := g.pc) (want := 4)
  have hx := hQ.word g.pc 4
  unfold stepF
  generalize fetchF m g.pc 4 = f at *
  obtain ⟨x, t, a⟩ := f
  simp only at *
  by_cases ht : t = 0
  · have ha : a = 0 := hz ht
    subst ht; subst ha
    rw [if_pos rfl]
    by_cases hd : (CodeLaw.decR (x : Int)).2 = 0
    · obtain ⟨op, A, B, C, he, o1, o2, hA, hB, c1, c2⟩ := dec_fields hd
      have HD := dec_any hx he
      rw [he]
      simp only [Int.toNat_natCast]
      by_cases h1 : op = 1
      · subst h1
        rw [if_neg (by simp)]
        exact step_halt (m' := m) (t := 0) hQ HX HD hr'
      · by_cases h26 : op = 26
        · subst h26
          rw [if_neg (by simp)]
          exact step_home (m' := m) (t := 0) hQ HX HD hr'
        · rw [if_pos ⟨by trivial, h1, h26⟩]
          by_cases k1 : 5 ≤ op ∧ op ≤ 13
          · exact alu_is hQ hg HX HD hA hB k1.1 k1.2
          · by_cases k2 : 15 ≤ op ∧ op ≤ 18 ∨ op = 25
            · exact memo_is hQ hg HX HD hA hB k2
            · by_cases k3 : 19 ≤ op ∧ op ≤ 23
              · exact jumpo_is hQ hg HX HD hA hB k3.1 k3.2
              · exact othero_is hQ hg HX HD hA hB (by omega)
    · have HD := dec_any (op := 0) (A := 0) (B := 0) (C := 0) (e := 3) hx (CodeLaw.decR_bad hd)
      rw [if_neg (fun h => hd h.1)]
      exact step_form (m' := m) (t := 0) hQ HX HD rfl
  · rw [if_neg ht]
    exact step_fault (m' := m) hQ HX (by simpa using ht)
end
end Go.Proofs.Ytopadiofanaaiaa.CpuLaw
