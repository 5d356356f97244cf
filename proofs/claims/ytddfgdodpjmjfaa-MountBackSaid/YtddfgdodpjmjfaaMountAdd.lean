/- The walks of slices.Clone, mount.Add, ringkeep5.mounts. -/
import Derived.Test.YtddfgdodpjmjfaaMountCheck
import Derived.Lib.SliceRun
namespace Go.Proofs.Ytddfgdodpjmjfaa.MountLaw
open Go.RowKit
set_option linter.unusedVariables false

def cellsM (l : List Mt) : List Value := l.flatMap fun m => [.int .i64 m.a, .int .i64 m.r]
theorem cellsM_length (l : List Mt) : (cellsM l).length = l.length * 2 := by
  induction l with
  | nil => rfl
  | cons m t ih => simp [cellsM] at ih ⊢; omega
theorem cellsM_at (l : List Mt) : ∀ i, i < l.length → (cellsM l)[i * 2]? = some (.int .i64 (l.getD i m0).a) ∧ (cellsM l)[i * 2 + 1]? = some (.int .i64 (l.getD i m0).r) := by
  induction l with
  | nil => intro i h; simp at h
  | cons m t ih =>
    intro i h
    have c : cellsM (m :: t) = .int .i64 m.a :: .int .i64 m.r :: cellsM t := rfl
    cases i with
    | zero => simp [c]
    | succ i =>
      have := ih i (by simpa using h)
      rw [c, show (i + 1) * 2 = i * 2 + 2 from by omega]
      simpa using this
theorem ownsRow_below' {w w' : World} {base : Nat} {e : TypeId} {size : Nat} {v : Value} {n : Nat} {xs : List Value} (h : w.ownsRow base e size v n xs) (hb : Below w.heap.size w w') : w'.ownsRow base e size v n xs :=
  h.kept (row := none) ⟨hb.os, hb.tape, hb.output, hb.size, fun k hk _ => hb.block k hk⟩ (by cases hv : v.ownBlock <;> simp)
theorem cellsM_append (l t : List Mt) : cellsM (l ++ t) = cellsM l ++ cellsM t := by simp [cellsM]
theorem cellsM_one (l : List Mt) : ∀ u ∈ cellsM l, u.oneCell' = true := by
  intro u hu
  obtain ⟨r, _, hr⟩ := List.mem_flatMap.1 hu
  simp at hr
  rcases hr with rfl | rfl <;> rfl
theorem ms_owned {w : World} {base : Nat} {e : TypeId} {v : Value} {l : List Mt} (h : w.ownsRow base e 2 v l.length (cellsM l)) : MS w v l := by
  rcases h.2 with ⟨rfl, hn⟩ | ⟨g, cap, cur, rfl, hb, hg, hnc, hcm, hcs, htake⟩
  · have : l = [] := List.eq_nil_of_length_eq_zero hn
    subst this
    exact ⟨none, 0, rfl, Nat.le_refl _, Nat.zero_le _, .inl rfl⟩
  · refine ⟨some ⟨g, 0, none⟩, cap, rfl, hnc, hcm, .inr ⟨g, 0, rfl, (Array.getElem?_eq_some_iff.1 hg).1, fun i hi => ?_⟩⟩
    have hc := cellsM_at l i hi
    have hcl := h.cells (g := g) rfl
    constructor
    · have := hcl _ _ hc.1
      rw [Addr.add_lit] at this
      simpa using this
    · have := hcl _ _ hc.2
      rw [Addr.add_lit] at this
      simpa using this
theorem cells_lie {w : World} {b off : Nat} {l : List Mt} (h : ∀ i, i < l.length → w.cell? ⟨b, off + i * 2, none⟩ = some (.int .i64 (l.getD i m0).a) ∧ w.cell? ⟨b, off + i * 2 + 1, none⟩ = some (.int .i64 (l.getD i m0).r)) : ∀ j u, (cellsM l)[j]? = some u → w.cell? ((⟨b, off, none⟩ : Addr).add j) = some u := by
  intro j u hj
  rw [Addr.add_lit]
  have hlt : j < l.length * 2 := by
    have := (List.getElem?_eq_some_iff.1 hj).1
    rw [cellsM_length] at this; exact this
  have hi : j / 2 < l.length := by omega
  obtain ⟨h0, h1⟩ := cellsM_at l (j / 2) hi
  have hm : j = j / 2 * 2 ∨ j = j / 2 * 2 + 1 := by omega
  rcases hm with e | e
  · rw [e] at hj ⊢; rw [← hj, h0]; exact (h _ hi).1
  · rw [e] at hj ⊢; rw [← hj, h1]; rw [← Nat.add_assoc]; exact (h _ hi).2
theorem info80 : (Try.prog.info? 80).map (fun i => (i.zero, i.size, i.bytes)) = some (some (.agg #[.int .i64 0, .int .i64 0]), 2, 16) := by kernel_rfl

def ClonePost (l : List Mt) (w : World) (e : Ending) (w' : World) : Prop := ∃ v', e = .returned v' ∧ w'.ownsRow w.heap.size 80 2 v' l.length (cellsM l) ∧ Below w.heap.size w w'
set_option maxRecDepth 100000 in
set_option maxHeartbeats 400000 in
theorem clone_is {w : World} {v : Value} {l : List Mt} (h8 : l.length ≤ 9) (hm : MS w v l) : Calls Try.prog 71 #[v] w (ClonePost l w) := by
  obtain ⟨a, cap, rfl, hl, hcap, hm⟩ := hm
  have q68 : ∀ (w : World) (a : Option Addr) (n c n' c' : Nat), (binOp .eql 68 (.slice a n c) (.slice none n' c')).run Try.prog w = .ok (.bool a.isNone) w := fun w a n c n' c' => Lib.run_eql_slice_nil w _ _ a n c n' c' Try.underlying68
  cases a with
  | none =>
    have h0 : l = [] := by
      rcases hm with h | ⟨b, off, h, _⟩
      · exact List.eq_nil_of_length_eq_zero h
      · cases h
    subst h0
    clear hm
    go_enter Try.func71, Try.ntmps71
    go_wp2
    go_ret
    exact ⟨_, rfl, World.ownsRow_nil _ _ _ _, Below.refl _ _⟩
  | some ad =>
    have hcl : ∀ j u, (cellsM l)[j]? = some u → ad.block < w.heap.size ∧ w.cell? (ad.add j) = some u := by
      rcases hm with h | ⟨b, off, hab, hlt, hc⟩
      · intro j u hj
        have := List.eq_nil_of_length_eq_zero h
        subst this
        simp [cellsM] at hj
      · simp only [Option.some.injEq] at hab
        subst hab
        exact fun j u hj => ⟨hlt, cells_lie hc j u hj⟩
    have hlen := cellsM_length l
    have hone := cellsM_one l
    obtain ⟨n, hn⟩ : ∃ n, n = l.length := ⟨_, rfl⟩
    unfold ClonePost
    rw [← hn] at h8 hl hlen ⊢
    generalize cellsM l = cs at *
    have HC := Lib.hid hcl
    have HO := Lib.hid hone
    clear hm hn hcl hone
    obtain ⟨i0, hi, hz0, hz1, hz2⟩ := info_parts info80
    go_enter Try.func71, Try.ntmps71
    go_wp2_with (at_builtin; go_loud (refine wpList_append_fresh _ rfl (.tmp 5) (.tmp 6) 68 rfl w.heap.size 80 i0 (.agg #[.int .i64 0, .int .i64 0]) 2 16 Try.underlying68 hi hz0 hz1 hz2 rfl (by decide) _ _ _ rfl (World.ownsRow_made w #[] 0 (Nat.le_refl _) (Nat.zero_le _) rfl) ad n _ cs rfl hlen (fun j u h => by have := HC.out j u h; rw [World.cell?_alloc_lt]; exact this.2; exact World.block_lt_of_cell? w _ this.2) HO.out (by unfold maxLen; omega) (by omega) (by simp) ?_))
    intro v' w1 hown hgrow hfresh
    have hb1 : Below w.heap.size w w1 := ((Below.refl _ _).alloc (Nat.le_refl _) _).grown hgrow (by simp) (fun g hg => by simp [Value.ownBlock] at hg; omega)
    clear hgrow hfresh
    rcases hown.2 with ⟨rfl, hn⟩ | ⟨g, cap', cur, rfl, hb, hg, hnc, hcm, hcs, htake⟩
    · go_wp2
      go_ret
      exact ⟨_, rfl, by simpa using hown, hb1⟩
    · clear hb hg hnc hcm hcs htake
      go_wp2
      go_ret
      exact ⟨_, rfl, by simpa using hown, hb1⟩

def AddPost (l : List Mt) (m : Mt) (w : World) (e : Ending) (w' : World) : Prop :=
  ∃ v' en, e = .returned (.tuple #[v', .int .i64 en]) ∧ Below w.heap.size w w' ∧ ((en = 0 ∧ Good l ∧ Good (l ++ [m]) ∧ ∃ base, w.heap.size ≤ base ∧ w'.ownsRow base 80 2 v' (l ++ [m]).length (cellsM (l ++ [m]))) ∨ (en ≠ 0 ∧ v' = .slice none 0 0 ∧ ¬ (Good l ∧ Good (l ++ [m]))))
theorem one2 {a b : Int} : ∀ u ∈ [Value.int .i64 a, Value.int .i64 b], u.oneCell' = true := by intro u hu; simp at hu; rcases hu with rfl | rfl <;> rfl
set_option maxRecDepth 100000 in
set_option maxHeartbeats 2000000 in
theorem add_is {w : World} {v : Value} {l : List Mt} (x y : Int) (hm : MS w v l) : Calls Try.prog 42 #[v, .int .i64 x, .int .i64 y] w (AddPost l ⟨x, y⟩ w) := by
  have HC := Lib.hid (check_is hm)
  have hclone := fun w' (hb : Below w.heap.size w w') (h8 : l.length ≤ 9) => clone_is (w := w') h8 (hm.below hb)
  have HCL := Lib.hid hclone
  obtain ⟨a, cap, rfl, _⟩ := hm
  clear hclone
  go_enter Try.func42, Try.ntmps42
  go_wp2_with fail
  refine HC.out.mono ?_
  rintro e w1 ⟨en, rfl, hb1, hcase⟩
  have HB1 := Lib.hid hb1
  clear hb1
  rcases hcase with ⟨rfl, hg⟩ | ⟨hen, hg⟩
  · have HG := Lib.hid hg
    have h8 := hg.len
    clear hg
    go_wp2_with fail
    refine (HCL.out _ HB1.out (by omega)).mono ?_
    rintro e w2 ⟨v', rfl, hown, hb2⟩
    have HB2 := Lib.hid (HB1.out.trans (hb2.mono HB1.out.size))
    have hsz := hb2.size
    have HB12 := Lib.hid hb2
    obtain ⟨i0, hi, hz0, hz1, hz2⟩ := info_parts info80
    clear hb2
    go_wp2_with (at_builtin; go_loud (refine wpList_append_fresh _ rfl (.tmp 17) (.tmp 21) 68 rfl w1.heap.size 80 i0 (.agg #[.int .i64 0, .int .i64 0]) 2 16 Try.underlying68 hi hz0 hz1 hz2 rfl (by decide) _ _ _ rfl (hown.alloc _) ⟨_, 0, none⟩ 1 1 [.int .i64 x, .int .i64 y] rfl rfl (cells_new _ [.int .i64 x, .int .i64 y] _) one2 (by unfold maxLen; omega) (by omega) (by simp; omega) ?_))
    intro v3 w3 own3 grow3 fresh3
    have hb3 : Below w1.heap.size w1 w3 := (HB12.out.alloc HB12.out.size _).grown grow3 (by simp; omega) (fun g hg => (hown.lt g hg).1)
    have hB3 := HB1.out.trans (hb3.mono HB1.out.size)
    have own4 : w3.ownsRow w1.heap.size 80 2 v3 (l ++ [(⟨x, y⟩ : Mt)]).length (cellsM (l ++ [(⟨x, y⟩ : Mt)])) := by
      rw [cellsM_append]; simpa [cellsM] using own3
    have HB3 := Lib.hid hB3
    have HO := Lib.hid own4
    have HC2 := Lib.hid (check_is (ms_owned own4))
    clear own3 grow3 fresh3 hb3 hB3 own4 hown
    go_wp2_with fail
    refine HC2.out.mono ?_
    rintro e w4 ⟨en, rfl, hb4, hcase⟩
    have HB4 := Lib.hid (HB3.out.trans (hb4.mono HB3.out.size))
    have HO4 := Lib.hid (ownsRow_below' HO.out hb4)
    clear hb4
    rcases hcase with ⟨rfl, hg2⟩ | ⟨hen, hg2⟩
    · have HG2 := Lib.hid hg2
      clear hg2
      go_wp2
      go_ret2
      exact ⟨v3, 0, rfl, HB4.out, .inl ⟨rfl, HG.out, HG2.out, w1.heap.size, HB1.out.size, HO4.out⟩⟩
    · have hen' : (en != 0) = true := by simp [hen]
      have HE := Lib.hid hen
      have HG2 := Lib.hid hg2
      clear hen hg2
      by_cases h2 : en = 2
      · subst h2
        go_wp2
        go_ret2
        exact ⟨_, 6, rfl, HB4.out, .inr ⟨by decide, rfl, fun h => HG2.out h.2⟩⟩
      · have h2' : (en == 2) = false := by simp [h2]
        clear h2
        go_wp2
        go_ret2
        exact ⟨_, en, rfl, HB4.out, .inr ⟨HE.out, rfl, fun h => HG2.out h.2⟩⟩
  · have hen' : (en != 0) = true := by simp [hen]
    have HE := Lib.hid hen
    have HG := Lib.hid hg
    clear hen hg
    go_wp2
    go_ret2
    exact ⟨_, en, rfl, HB1.out, .inr ⟨HE.out, rfl, fun h => HG.out h.1⟩⟩
end Go.Proofs.Ytddfgdodpjmjfaa.MountLaw
