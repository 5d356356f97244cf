/- The walks of package limit: Check and kids of whatever slice; slices.Clone, slices.Equal. -/
import Derived.Test.YtgdihccmkleimaaLimitWalk
import Derived.Test.YtgdihccmkleimaaBase
import Derived.BigQuiet
import Derived.Lib.SliceRun
namespace Go.Proofs.Ytgdihccmkleimaa.LimitLaw
open Go.RowKit
open BoxLaw (Rg Lies IsL cellsR cellsR_at cellsR_length)
set_option linter.unusedVariables false

theorem isL_owned {w : World} {base : Nat} {e : TypeId} {v : Value} {l : List Rg} (h : w.ownsRow base e 3 v l.length (cellsR l)) : IsL w v l := by
  rcases h.2 with ⟨rfl, hn⟩ | ⟨g, cap, cur, rfl, hb, hg, hnc, hcm, hcs, htake⟩
  · have : l = [] := List.eq_nil_of_length_eq_zero hn
    subst this
    exact ⟨none, 0, rfl, Nat.le_refl _, .inl rfl⟩
  · refine ⟨some ⟨g, 0, none⟩, cap, rfl, hnc, .inr ⟨g, 0, rfl, ?_, ?_, ?_, ?_⟩⟩
    · exact (Array.getElem?_eq_some_iff.1 hg).1
    all_goals
      intro i hi
      have hc := cellsR_at l i hi
      have hcl := h.cells (g := g) rfl
    · have := hcl _ _ hc.1
      rw [Addr.add_lit] at this
      simpa using this
    · have := hcl _ _ hc.2.1
      rw [Addr.add_lit] at this
      simpa using this
    · have := hcl _ _ hc.2.2
      rw [Addr.add_lit] at this
      simpa using this
theorem isL_nil (w : World) : IsL w (.slice none 0 0) [] := ⟨none, 0, rfl, Nat.le_refl _, .inl rfl⟩

theorem cellsR_set (l : List Rg) (x : Int) : ∀ k, k < l.length → (cellsR l).set (k * 3 + 1) (.int .i64 x) = cellsR (l.set k ⟨(l.getD k r0).a, x, (l.getD k r0).n⟩) := by
  induction l with
  | nil => intro k h; simp at h
  | cons r t ih =>
    intro k h
    have c : ∀ (r : Rg) t, cellsR (r :: t) = .int .i64 r.a :: .int .i64 r.b :: .int .i64 r.n :: cellsR t := fun _ _ => rfl
    cases k with
    | zero => simp [c]
    | succ k =>
      have := ih k (by simpa using h)
      rw [show (k + 1) * 3 + 1 = (k * 3 + 1) + 3 from by omega, c, List.set_cons_succ, List.set_cons_succ, List.set_cons_succ, this, List.set_cons_succ, c]
      simp

theorem check_none (a : Option Addr) (cap : Nat) (w : World) :
    Calls Try.prog 38 #[.slice a 0 cap] w fun e w' => e = .returned (.int .i64 0) ∧ Below w.heap.size w w' := by
  go_enter Try.func38, Try.ntmps38
  go_wp2
  refine wp_loop_rounds 1 ?_
  rw [rounds_succ]
  go_wp2
  refine wp_loop_rounds 1 ?_
  rw [rounds_succ]
  go_wp2
  go_ret
  exact ⟨rfl, Below.refl _ _⟩
theorem check_is {w : World} {v : Value} {l : List Rg} (h : IsL w v l) :
    Calls Try.prog 38 #[v] w fun e w' => e = .returned (.int .i64 (chkT l)) ∧ Below w.heap.size w w' := by
  obtain ⟨a, cap, rfl, hl, h⟩ := h
  rcases h with rfl | ⟨b, off, rfl, hL⟩
  · exact check_none a cap w
  · exact check_some b off cap l w hl hL

theorem info78 : (Try.prog.info? 78).map (fun i => (i.zero, i.size, i.bytes)) = some (some (.agg #[.int .i64 0, .int .i64 0, .int .i64 0]), 3, 24) := by kernel_rfl

def ClonePost (l : List Rg) (w : World) (e : Ending) (w' : World) : Prop :=
  ∃ g cap, e = .returned (.slice (some ⟨g, 0, none⟩) l.length cap) ∧ w'.ownsRow w.heap.size 78 3 (.slice (some ⟨g, 0, none⟩) l.length cap) l.length (cellsR l) ∧ Below w.heap.size w w'

theorem cells_lie {w : World} {b off : Nat} {l : List Rg} (hL : Lies w b off l) : ∀ j u, (cellsR l)[j]? = some u → w.cell? ((⟨b, off, none⟩ : Addr).add j) = some u := by
  intro j u h
  rw [Addr.add_lit]
  have hj : j < l.length * 3 := by
    have := (List.getElem?_eq_some_iff.1 h).1
    rw [cellsR_length] at this; exact this
  have hi : j / 3 < l.length := by omega
  obtain ⟨h0, h1, h2⟩ := cellsR_at l (j / 3) hi
  have hm : j = j / 3 * 3 ∨ j = j / 3 * 3 + 1 ∨ j = j / 3 * 3 + 2 := by omega
  rcases hm with e | e | e
  · rw [e] at h ⊢; rw [← h, h0]; exact hL.ca _ hi
  · rw [e] at h ⊢; rw [← h, h1]; rw [← Nat.add_assoc]; exact hL.cb _ hi
  · rw [e] at h ⊢; rw [← h, h2]; rw [← Nat.add_assoc]; exact hL.cn _ hi
theorem cellsR_one (l : List Rg) : ∀ u ∈ cellsR l, u.oneCell' = true := by
  intro u hu
  obtain ⟨r, _, hr⟩ := List.mem_flatMap.1 hu
  simp at hr
  rcases hr with rfl | rfl | rfl <;> rfl

set_option maxHeartbeats 400000 in
theorem clone_some (b off cap : Nat) (l : List Rg) (w : World) (h0 : 0 < l.length) (h12 : l.length ≤ 12) (hL : Lies w b off l) :
    Calls Try.prog 59 #[.slice (some ⟨b, off, none⟩) l.length cap] w (ClonePost l w) := by
  have hcl := cells_lie hL
  have hlt := hL.lt
  have hlen := cellsR_length l
  have hpost : ∀ e w', ClonePost l w e w' → ClonePost l w e w' := fun _ _ h => h
  obtain ⟨cs, hcs⟩ : ∃ cs, cs = cellsR l := ⟨_, rfl⟩
  have hone := cellsR_one l
  obtain ⟨n, hn⟩ : ∃ n, n = l.length := ⟨_, rfl⟩
  unfold ClonePost
  rw [← hcs] at hcl hlen hone ⊢
  rw [← hn] at h0 h12 hlen ⊢
  have HC := Lib.hid hcl
  have HO := Lib.hid hone
  clear hL hn hcs hcl hpost hone
  obtain ⟨i0, hi, hz0, hz1, hz2⟩ := info_parts info78
  have q68 : ∀ (w : World) (a : Option Addr) (n c n' c' : Nat), (binOp .eql 68 (.slice a n c) (.slice none n' c')).run Try.prog w = .ok (.bool a.isNone) w := fun w a n c n' c' => Lib.run_eql_slice_nil w _ _ a n c n' c' Try.underlying68
  go_enter Try.func59, Try.ntmps59
  go_wp2_with (at_builtin; refine wpList_append_fresh _ rfl (.tmp 5) (.tmp 6) 68 rfl w.heap.size 78 i0 (.agg #[.int .i64 0, .int .i64 0, .int .i64 0]) 3 24 Try.underlying68 hi hz0 hz1 hz2 rfl (by decide) _ _ _ rfl (World.ownsRow_made w #[] 0 (Nat.le_refl _) (Nat.zero_le _) rfl) ⟨b, off, none⟩ n _ cs rfl hlen (fun j u h => by have := HC.out j u h; rw [Addr.add_lit] at this ⊢; exact (World.cell?_alloc_past _ _ _ (by omega)).trans this) HO.out (by unfold maxLen; omega) (by omega) (by simp) ?_)
  intro v' w1 hown hgrow hfresh
  have hb1 : Below w.heap.size w w1 := ((Below.refl _ _).alloc (Nat.le_refl _) _).grown hgrow (by simp) (fun g hg => by simp [Value.ownBlock] at hg; omega)
  clear hgrow hfresh
  rcases hown.2 with ⟨rfl, hn⟩ | ⟨g, cap', cur, rfl, hb, hg, hnc, hcm, hcs, htake⟩
  · omega
  · clear hb hg hnc hcm hcs htake
    go_wp2
    go_ret
    exact ⟨g, cap', rfl, hown, hb1⟩

set_option maxHeartbeats 400000 in
theorem equal_some (b off cap b' off' cap' : Nat) (l : List Rg) (w : World) (h0 : 0 < l.length) (h12 : l.length ≤ 12) (hL : Lies w b off l) (hM : Lies w b' off' l) :
    Calls Try.prog 42 #[.slice (some ⟨b, off, none⟩) l.length cap, .slice (some ⟨b', off', none⟩) l.length cap'] w fun e w' => e = .returned (.bool true) ∧ Below w.heap.size w w' := by
  obtain ⟨n, hn⟩ : ∃ n, n = l.length := ⟨_, rfl⟩
  rw [← hn] at h0 h12 ⊢
  have HL := Lib.hid hL
  have HM := Lib.hid hM
  have HN := Lib.hid hn
  clear hL hM hn
  go_enter Try.func42, Try.ntmps42
  go_wp2
  go_loopw [13] (fun i wr => ∃ k : Nat, k ≤ n ∧ i = .int .i64 k ∧ Below w.heap.size w wr) (fun i _ => n - (intOf i).toNat)
  case atStart => exact ⟨0, Nat.zero_le _, rfl, Below.refl _ _⟩
  case round =>
    obtain ⟨k, hk, rfl, hbel⟩ := hrel
    by_cases hlt : k < n
    · obtain ⟨r, hr⟩ : ∃ r, r = l.getD k r0 := ⟨_, rfl⟩
      have g1 := (hbel.cell (p := ⟨b, off + k * 3, none⟩) HL.out.lt).trans (HL.out.ca k (by rw [← HN.out]; exact hlt))
      have g2 := (hbel.cell (p := ⟨b, off + k * 3 + 1, none⟩) HL.out.lt).trans (HL.out.cb k (by rw [← HN.out]; exact hlt))
      have g3 := (hbel.cell (p := ⟨b, off + k * 3 + 2, none⟩) HL.out.lt).trans (HL.out.cn k (by rw [← HN.out]; exact hlt))
      have e1 := (hbel.cell (p := ⟨b', off' + k * 3, none⟩) HM.out.lt).trans (HM.out.ca k (by rw [← HN.out]; exact hlt))
      have e2 := (hbel.cell (p := ⟨b', off' + k * 3 + 1, none⟩) HM.out.lt).trans (HM.out.cb k (by rw [← HN.out]; exact hlt))
      have e3 := (hbel.cell (p := ⟨b', off' + k * 3 + 2, none⟩) HM.out.lt).trans (HM.out.cn k (by rw [← HN.out]; exact hlt))
      rw [← hr] at g1 g2 g3 e1 e2 e3
      clear hr
      go_wp2
      go_quiet (fail)
      go_wp2
      go_roundw
      case rel => exact ⟨k + 1, by omega, by go_num, below_drewN hbel _⟩
      case measure => simp [intOf]; omega
    · obtain rfl : k = n := by omega
      go_wp2
      go_ret
      exact ⟨rfl, hbel⟩
theorem equal_none (a a' : Option Addr) (cap cap' : Nat) (w : World) :
    Calls Try.prog 42 #[.slice a 0 cap, .slice a' 0 cap'] w fun e w' => e = .returned (.bool true) ∧ Below w.heap.size w w' := by
  go_enter Try.func42, Try.ntmps42
  go_wp2
  refine wp_loop_rounds 1 ?_
  rw [rounds_succ]
  go_wp2
  go_ret
  exact ⟨rfl, Below.refl _ _⟩
theorem equal_is {w : World} {v v' : Value} {l : List Rg} (h12 : l.length ≤ 12) (h : IsL w v l) (h' : IsL w v' l) :
    Calls Try.prog 42 #[v, v'] w fun e w' => e = .returned (.bool true) ∧ Below w.heap.size w w' := by
  obtain ⟨a, cap, rfl, hl, h⟩ := h
  obtain ⟨a', cap', rfl, hl', h'⟩ := h'
  by_cases h0 : l = []
  · subst h0; exact equal_none _ _ _ _ w
  · rcases h with h | ⟨b, off, rfl, hL⟩
    · exact absurd h h0
    · rcases h' with h' | ⟨b', off', rfl, hM⟩
      · exact absurd h' h0
      · exact equal_some b off cap b' off' cap' l w (List.length_pos_iff.2 h0) h12 hL hM
end Go.Proofs.Ytgdihccmkleimaa.LimitLaw
