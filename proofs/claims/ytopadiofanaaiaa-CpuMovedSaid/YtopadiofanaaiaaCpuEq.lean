/- Registers compared; slices.Clone at bytes. -/
import Derived.Test.YtopadiofanaaiaaCpuRow
import Derived.Test.YtopadiofanaaiaaTab
import Derived.Laws.StructEq
import Derived.WalkSpells
import Derived.ChangeKeysEq
namespace Go.Proofs.Ytopadiofanaaiaa.CpuLaw
open Go.RowKit
set_option linter.unusedVariables false
set_option linter.unusedSimpArgs false
/-- the general registers as an array -/
def regsA (g : G) : Array Value := #[.int .u32 (g.r 0), .int .u32 (g.r 1), .int .u32 (g.r 2), .int .u32 (g.r 3), .int .u32 (g.r 4), .int .u32 (g.r 5), .int .u32 (g.r 6), .int .u32 (g.r 7)]
theorem part_at (g : G) (i : Nat) (hi : i < 8) (w : World) : (part 33 (regsA g) (i * 1)).run Try.prog w = .ok (.int .u32 (g.r i)) w := by
  have : i = 0 ∨ i = 1 ∨ i = 2 ∨ i = 3 ∨ i = 4 ∨ i = 5 ∨ i = 6 ∨ i = 7 := by omega
  rcases this with rfl | rfl | rfl | rfl | rfl | rfl | rfl | rfl <;> simp [part, go_sem, regsA]
theorem items_same (d : Nat) (w : World) (h : Nat → Nat) (A A' : Array Value) (hA : ∀ i, i < 8 → ∀ w, (part 33 A (i * 1)).run Try.prog w = .ok (.int .u32 (h i)) w) (hA' : ∀ i, i < 8 → ∀ w, (part 33 A' (i * 1)).run Try.prog w = .ok (.int .u32 (h i)) w) : ∀ is : List Nat, (∀ i ∈ is, i < 8) → (Op.eqItems (d + 1) 33 1 A A' is).run Try.prog w = .ok true w := by
  intro is
  induction is with
  | nil => intro _; simp [Op.eqItems]
  | cons i is ih =>
    intro hi
    have h1 := hA i (hi i (by simp)) w
    have h1' := hA' i (hi i (by simp)) w
    have h2 := ih (fun j hj => hi j (by simp [hj]))
    simp only [Op.eqItems, Sem.run_bind, h1, h1', Result.andThen_ok]
    have h3 := run_equalIn_int w d 33 .u32 .u32 (h i) (h i) Try.underlying33
    simp [h2, h3]
theorem eq59 {g g' : G} (d : Nat) (hr : ∀ i, i < 8 → g'.r i = g.r i) (w : World) : (Op.equalIn (d + 2) 59 (.agg (regsA g)) (.agg (regsA g'))).run Try.prog w = .ok true w := by
  rw [show d + 2 = (d + 1) + 1 from rfl, run_equalIn_array w (d + 1) _ _ Try.underlying59 (i := Try.t33) (by kernel_rfl), show Try.prog.cellsOf 33 = 1 from by kernel_rfl]
  exact items_same d w g.r _ _ (fun i hi w => part_at g i hi w) (fun i hi w => by rw [← hr i hi]; exact part_at g' i hi w) _ (fun i hi => by simpa using hi)
set_option maxRecDepth 100000 in
set_option maxHeartbeats 1000000 in
theorem eq61 (g : G) (w : World) : (Op.equalIn 10000 61 (.agg (cellsA g)) (.agg (cellsA g))).run Try.prog w = .ok true w := by
  have h := eq59 (g := g) (g' := g) 9997 (fun _ _ => rfl) w
  unfold cellsA
  unfold regsA at h
  simp [go_sem, h]
theorem neq61 (g : G) (w : World) : (binOp .neq 61 (.agg (cellsA g)) (.agg (cellsA g))).run Try.prog w = .ok (.bool false) w := by
  have h : (Op.equalIn Op.maxDepth 61 (.agg (cellsA g)) (.agg (cellsA g))).run Try.prog w = .ok true w := eq61 g w
  generalize cellsA g = A at *
  simp [binOp, Op.equal, h, go_sem]
theorem neq59 {g g' : G} (hr : ∀ i, i < 8 → g'.r i = g.r i) (w : World) : (binOp .neq 59 (.agg (regsA g)) (.agg (regsA g'))).run Try.prog w = .ok (.bool false) w := by
  have h : (Op.equalIn Op.maxDepth 59 (.agg (regsA g)) (.agg (regsA g'))).run Try.prog w = .ok true w := eq59 9998 hr w
  generalize regsA g = A at *
  generalize regsA g' = A' at *
  simp [binOp, Op.equal, h, go_sem]
theorem info5 : (Try.prog.info? 5).map (fun i => (i.zero, i.size, i.bytes)) = some (some (.int .u8 0), 1, 1) := by kernel_rfl
abbrev u8V (x : Int) : Value := .int .u8 x
theorem u8V_one (l : List Int) : ∀ u ∈ l.map u8V, u.oneCell' = true := by
  intro u hu
  obtain ⟨x, _, rfl⟩ := List.mem_map.1 hu
  rfl
theorem cells_u8 {w : World} {b off : Nat} {l : List Int} (h : ∀ i, i < l.length → w.cell? ⟨b, off + i, none⟩ = some (u8V (l.getD i 0))) : ∀ j u, (l.map u8V)[j]? = some u → w.cell? ((⟨b, off, none⟩ : Addr).add j) = some u := by
  intro j u hj
  rw [Addr.add_lit]
  rw [List.getElem?_map] at hj
  have hlt : j < l.length := by
    rcases Nat.lt_or_ge j l.length with h | h
    · exact h
    · rw [List.getElem?_eq_none h] at hj; cases hj
  rw [h j hlt]
  simp [hlt] at hj
  simp [List.getD, hlt, hj]
/-- what Clone leaves: bytes in a block of their own -/
def CloneB (l : List Int) (w : World) (e : Ending) (w' : World) : Prop := ∃ v', e = .returned v' ∧ w'.ownsRow w.heap.size 5 1 v' l.length (l.map u8V) ∧ Below w.heap.size w w'
set_option maxRecDepth 100000 in
set_option maxHeartbeats 400000 in
theorem cloneB_is {w : World} {v : Value} {l : List Int} (h8 : l.length ≤ 140737488355328) (hm : At (Value.int .u8) 0 w v l) : Calls Try.prog 29 #[v] w (CloneB l w) := by
  obtain ⟨a, cap, rfl, hl, hcap, hm⟩ := hm
  have q22 : ∀ (w : World) (a : Option Addr) (n c n' c' : Nat), (binOp .eql 49 (.slice a n c) (.slice none n' c')).run Try.prog w = .ok (.bool a.isNone) w := fun w a n c n' c' => Lib.run_eql_slice_nil w _ _ a n c n' c' Try.underlying49
  cases a with
  | none =>
    have h0 : l = [] := by
      rcases hm with h | ⟨b, off, h, _⟩
      · exact h
      · cases h
    subst h0
    clear hm
    go_enter Try.func29, Try.ntmps29
    go_wp2
    go_ret
    exact ⟨_, rfl, World.ownsRow_nil _ _ _ _, Below.refl _ _⟩
  | some ad =>
    have hcl : ∀ j u, (l.map u8V)[j]? = some u → w.cell? (ad.add j) = some u := by
      rcases hm with h | ⟨b, off, hab, hlt, hc⟩
      · intro j u hj
        subst h
        simp at hj
      · simp only [Option.some.injEq] at hab
        subst hab
        exact fun j u hj => cells_u8 hc j u hj
    have hlen : (l.map u8V).length = l.length * 1 := by simp
    have hone := u8V_one l
    obtain ⟨n, hn⟩ : ∃ n, n = l.length := ⟨_, rfl⟩
    unfold CloneB
    rw [← hn] at h8 hl hlen ⊢
    generalize l.map u8V = cs at *
    have HC := Lib.hid hcl
    have HO := Lib.hid hone
    have H8 := Lib.hid h8
    clear hm hn hcl hone h8
    obtain ⟨i0, hi, hz0, hz1, hz2⟩ := info_parts info5
    go_enter Try.func29, Try.ntmps29
    go_wp2_with (at_builtin; go_loud (refine wpList_append_fresh _ rfl (.tmp 5) (.tmp 6) 49 rfl w.heap.size 5 i0 (.int .u8 0) 1 1 Try.underlying49 hi hz0 hz1 hz2 rfl (by decide) _ _ _ rfl (World.ownsRow_made w #[] 0 (Nat.le_refl _) (Nat.zero_le _) rfl) ad n _ cs rfl hlen (fun j u h => by have := HC.out j u h; rw [World.cell?_alloc_lt]; exact this; exact World.block_lt_of_cell? w _ this) HO.out (by have := H8.out; unfold maxLen; omega) (by have := H8.out; omega) (by simp) ?_))
    intro v' w1 hown hgrow hfresh
    have hb1 : Below w.heap.size w w1 := ((Below.refl _ _).alloc (Nat.le_refl _) _).grown hgrow (by simp) (fun g hg => by simp [Value.ownBlock] at hg; omega)
    clear hgrow hfresh
    rcases hown.2 with ⟨rfl, hn⟩ | ⟨g, cap', cur, rfl, hb, hg, hnc, hcm, hcs, htake⟩
    · go_wp2
      go_ret
      exact ⟨_, rfl, by simpa using hown, hb1⟩
    · clear hb hg hnc hcm hcs htake
      go_wp2
      go_ret
      exact ⟨_, rfl, by simpa using hown, hb1⟩
end Go.Proofs.Ytopadiofanaaiaa.CpuLaw
