/- The walk of cred.Join. -/
import Derived.Test.YtjkephmfpoekgaaJoin
namespace Go.Proofs.Ytjkephmfpoekgaa.CredLaw
open Go.RowKit SortLaw
set_option linter.unusedVariables false
set_option linter.unusedSimpArgs false
attribute [local go_sem ↓] load44_eq store44_eq zero44 cellsC_of
attribute [local go_sem] store44_new load44_new
def JoinPost (c : C) (a : Int) (w : World) (e : Ending) (w' : World) : Prop :=
  Below w.heap.size w w' ∧ ((∃ d a' k, Joined c a d ∧ e = .returned (.tuple #[.agg (cellsC d (.slice a' d.xs.length k)), .int .i64 0]) ∧ At (Value.int .i64) 0 w' (.slice a' d.xs.length k) d.xs) ∨
    (¬ (chkC c = 0 ∧ bits .and .i64 c.caps 8 ≠ 0 ∧ (inC c a = true ∨ c.xs.length < 4)) ∧ ∃ er : Int, er ≠ 0 ∧ e = .returned (.tuple #[.agg (cellsC zeroC nilS), .int .i64 er])))
theorem Duo.grown {w w1 w2 : World} {b d : Nat} {x y : Array Value} {row : Option Nat} (h : Duo w w1 b d x y) (hg : w1.grownBy w2 row) (hr : ∀ k, row = some k → k ≠ b ∧ k ≠ d ∧ w.heap.size ≤ k) : Duo w w2 b d x y :=
  ⟨⟨hg.os.trans h.B.os, hg.tape.trans h.B.tape, hg.output.trans h.B.output, Nat.le_trans h.B.size hg.size, fun i hi => (hg.block i (Nat.lt_of_lt_of_le hi h.B.size) (fun e => by have := hr i e.symm; omega)).trans (h.B.block i hi)⟩,
   (hg.block b h.R.lt (fun e => by have := hr b e.symm; omega)).trans h.R, (hg.block d h.Z.lt (fun e => by have := hr d e.symm; omega)).trans h.Z, h.hb, h.hd, h.ne⟩
theorem Cells.of_block {w w' : World} {b : Nat} {l : List Int} (h : Cells w b l) (hb : w'.heap[b]? = w.heap[b]?) (hs : w.heap.size ≤ w'.heap.size) : Cells w' b l :=
  ⟨Nat.lt_of_lt_of_le h.1 hs, fun i => (World.frozen?_of_block (w := w) (a := ⟨b, i, none⟩) hb).trans (h.2.1 i), fun i hi => (World.cell?_of_block (w := w) (a := ⟨b, i, none⟩) hb).trans (h.2.2 i hi)⟩
theorem Cells.at {w : World} {b n cap : Nat} {l : List Int} (h : Cells w b l) (hn : l.length = n) (hc : n ≤ cap) (hm : cap ≤ maxLen) : At (Value.int .i64) 0 w (.slice (some ⟨b, 0, none⟩) n cap) l := by
  subst hn
  exact ⟨some ⟨b, 0, none⟩, cap, rfl, hc, hm, .inr ⟨b, 0, rfl, h.1, fun i hi => by rw [Nat.zero_add]; exact h.2.2 i hi⟩⟩
set_option maxRecDepth 100000 in
set_option maxHeartbeats 1000000 in
theorem join_is {w : World} {m : Value} {c : C} {a : Int} (hm : At (Value.int .i64) 0 w m c.xs) (h0 : 0 ≤ a) (h1 : a ≤ 99) : Calls Try.prog 6 #[.agg (cellsC c m), .int .i64 a] w (JoinPost c a w) := by
  have HD := Lib.hid (duo_new w c m)
  have HM := Lib.hid (hm.keep HD.out.B)
  have hl := HD.out.R.load44
  by_cases hz : chkC c = 0
  · have HZ := Lib.hid hz
    have HIN := Lib.hid (show Calls Try.prog 8 #[.agg (cellsC c m), .int .i64 a] _ _ from in_is a ⟨m, rfl, HM.out⟩ hz)
    have HL := Lib.hid (((chkC_zero c).1 hz).2.1)
    have HASC := Lib.hid ((chkP_asc c.xs).1 ((chkC_zero c).1 hz).2.2.1)
    clear hm hz
    obtain ⟨i, hi⟩ : ∃ i, inC c a = i := ⟨_, rfl⟩
    rw [hi] at HIN
    have HI := Lib.hid hi
    clear hi
    go_enter Try.func6, Try.ntmps6
    go_wp2_with fail
    refine HIN.out.mono ?_
    rintro e w1 ⟨rfl, hb1⟩
    have HD1 := Lib.hid (HD.out.keep hb1)
    have HM1 := Lib.hid (HM.out.keep hb1)
    clear hb1 hl HD HM HIN
    have p3 : w1.cell? ⟨w.heap.size, 3, none⟩ = some (.int .i64 c.caps) := HD1.out.R.cell 3
    by_cases hk : bits .and .i64 c.caps 8 = 0
    · have q1 : (bits .and .i64 c.caps 8 == 0) = true := by simpa using hk
      have HK := Lib.hid hk
      have hst := HD1.out.Z.store44 zeroC none 0 0
      clear hk
      go_wp2
      exact bodyPost_ret (v := .tuple #[.agg (cellsC zeroC nilS), .int .i64 7]) (by rw [results_cell_tmp rfl]; simp [asAddr, Result.andThen, (HD1.out.setD (cellsC zeroC nilS)).Z.loadVar44]) rfl ⟨(HD1.out.setD _).B, .inr ⟨fun h => h.2.1 HK.out, 7, by decide, rfl⟩⟩
    · have q1 : (bits .and .i64 c.caps 8 == 0) = false := by simpa using hk
      have HK := Lib.hid hk
      have HC := Lib.hid (copied_is (by have := HL.out; omega) HM1.out)
      have hl := HD1.out.R.load44
      clear hk
      obtain ⟨n, hn⟩ : ∃ n, c.xs.length = n := ⟨_, rfl⟩
      have HN := Lib.hid hn
      go_wp2_with fail
      refine HC.out.mono ?_
      rintro e w2 ⟨a2, k2, rfl, hown, hb2⟩
      rw [hn] at hown ⊢
      have HS2 := Lib.hid hb2.size
      have HZL := Lib.hid HD1.out.Z.lt
      have HD2 := Lib.hid (HD1.out.keep hb2)
      have hst := HD2.out.R.store44 c a2 n k2
      have HD3 := Lib.hid (HD2.out.setB (cellsC c (.slice a2 n k2)))
      have HO3 : Hid (Own (w2.setRow w.heap.size (cellsC c (.slice a2 n k2))) w1.heap.size (.slice a2 n k2) c.xs) := Lib.hid (hown.of (Nat.le_refl _) (fun g hg => setRow_heap _ _ _ _ (by have := HZL.out; omega)))
      have c2 : (w2.setRow w.heap.size (cellsC c (.slice a2 n k2))).cell? ⟨w.heap.size, 2, none⟩ = some (.slice a2 n k2) := HD3.out.R.cell 2
      have hl3 := HD3.out.R.load44
      have hst3 := HD3.out.Z.store44 c a2 n k2
      have hsz3 := HD3.out.Z.store44 zeroC none 0 0
      have HBW := Lib.hid HD1.out.B.size
      clear hb2 hown hl p3 hn
      cases i
      · by_cases hn4 : n = 4
        · have HN4 := Lib.hid hn4
          have q4 : ((n : Int) == 4) = true := by simp; omega
          clear hn4
          go_wp2
          exact bodyPost_ret (v := .tuple #[.agg (cellsC zeroC nilS), .int .i64 6]) (by rw [results_cell_tmp rfl]; simp [asAddr, Result.andThen, (HD3.out.setD (cellsC zeroC nilS)).Z.loadVar44]) rfl ⟨(HD3.out.setD _).B, .inr ⟨fun h => by
            rcases h.2.2 with h | h
            · rw [HI.out] at h; cases h
            · have := HN.out; have := HN4.out; omega, 6, by decide, rfl⟩⟩
        · have hn3 : n ≤ 3 := by have := HL.out; have := HN.out; omega
          have q4 : ((n : Int) == 4) = false := by simp; omega
          obtain ⟨i0, hi0, hz0, hz1, hz2⟩ : ∃ i : TypeInfo, Try.prog.info? 3 = some i ∧ i.zero = some (.int .i64 0) ∧ i.size = 1 ∧ i.bytes = 8 := ⟨_, rfl, by kernel_rfl, by kernel_rfl, by kernel_rfl⟩
          have HI0 := Lib.hid hi0
          have hsW : (w2.setRow w.heap.size (cellsC c (.slice a2 n k2))).heap.size = w2.heap.size := by simp [World.setRow]
          have HCE := Lib.hid (by have := cells1_new (w2.setRow w.heap.size (cellsC c (.slice a2 n k2))) (.int .i64 a) 3; rw [hsW] at this; exact this)
          have HOA : Hid (((w2.setRow w.heap.size (cellsC c (.slice a2 n k2))).alloc (.cells #[.int .i64 a] 3)).ownsRow w1.heap.size 3 1 (.slice a2 n k2) n (c.xs.map (Value.int .i64))) := Lib.hid (by
            have := World.ownsRow.alloc HO3.out (.cells #[.int .i64 a] 3)
            rw [HN.out] at this
            exact this)
          clear hn4 hi0 hst3 hsz3 hl3
          go_wp2_with (at_builtin; go_loud (refine wpList_append_fresh _ rfl (.tmp 40) (.tmp 42) 22 rfl w1.heap.size 3 i0 (.int .i64 0) 1 8 Try.underlying22 HI0.out hz0 hz1 hz2 rfl (by decide) _ _ _ rfl HOA.out ⟨_, 0, none⟩ 1 1 [.int .i64 a] rfl rfl HCE.out one1 (by unfold maxLen; omega) (by omega) (by have := HS2.out; simp [World.setRow]; omega) ?_))
          intro v7 w7 own7 grow7 fresh7
          have HD7 := Lib.hid ((HD3.out.keep (Go.Joins.below_alloc1 (w2.setRow w.heap.size (cellsC c (.slice a2 n k2))) (.cells #[.int .i64 a] 3))).grown grow7 (fun k hk => by have := (HOA.out.lt k hk).1; have := HZL.out; omega))
          have hcells := own7
          rcases own7.2 with ⟨-, h⟩ | ⟨g, cap7, cur, rfl, hg, hcur, hnc, hcm, hcs, htake⟩
          · omega
          have hgb : g ≠ w.heap.size ∧ g ≠ w.heap.size + 1 ∧ w.heap.size ≤ g := by have := HZL.out; omega
          have HC7 : Hid (Cells w7 g (put c.xs a n)) := Lib.hid (by
            rw [← HN.out, put_end]
            refine ⟨(Array.getElem?_eq_some_iff.1 hcur).1, fun i => frozen_of_row _ _ _ _ _ hcur, fun i hi => ?_⟩
            have := World.ownsRow.cells (g := g) hcells rfl i (.int .i64 ((c.xs ++ [a]).getD i 0)) (by
              rw [show c.xs.map (Value.int .i64) ++ [Value.int .i64 a] = (c.xs ++ [a]).map (Value.int .i64) from by simp, List.getElem?_map]
              simp [List.getD, List.getElem?_eq_getElem hi])
            rw [Addr.add_lit] at this
            simpa using this)
          have HD8 : Hid (Duo w (w7.setCell ⟨w.heap.size, 2, none⟩ (.slice (some ⟨g, 0, none⟩) (n + 1) cap7)) w.heap.size (w.heap.size + 1) (cellsC c (.slice (some ⟨g, 0, none⟩) (n + 1) cap7)) (cellsC zeroC nilS)) := Lib.hid (HD7.out.setC rfl)
          have HC8 : Hid (Cells (w7.setCell ⟨w.heap.size, 2, none⟩ (.slice (some ⟨g, 0, none⟩) (n + 1) cap7)) g (put c.xs a n)) := Lib.hid (Cells.of_block HC7.out (Below.heap_setCell _ _ _ _ hgb.1) (by simp [World.setCell]))
          have HSO := Lib.hid (sort_is (cap := cap7) (L := n + 1) HN.out (by omega) rfl (by rw [← HN.out]; exact HASC.out.2) HC8.out)
          have d2 : w7.cell? ⟨w.heap.size, 2, none⟩ = some (.slice a2 n k2) := HD7.out.R.cell 2
          have f2 := HD7.out.R.fz 2
          have HCAP := Lib.hid (And.intro hnc (And.intro hcm hgb))
          clear own7 grow7 fresh7 hcells hcur hcs htake hg hnc hcm hgb c2 hsW
          go_wp2_with fail
          refine HSO.out.mono ?_
          rintro e w9 ⟨rfl, hk9, j, hs, hc9⟩
          have HD9 := Lib.hid (HD8.out.grown hk9 (fun k hk => by cases hk; exact HCAP.out.2.2))
          have HC9 := Lib.hid hc9
          have HS9 := Lib.hid hs
          have hl9 := HD9.out.R.load44
          have hst9 := HD9.out.Z.store44 c (some ⟨g, 0, none⟩) (n + 1) cap7
          clear hk9 hs hc9 d2 f2
          go_wp2
          have hpl : (put c.xs a j).length = n + 1 := by rw [put_length, HN.out]
          refine bodyPost_ret (v := .tuple #[.agg (cellsC c (.slice (some ⟨g, 0, none⟩) (n + 1) cap7)), .int .i64 0]) (by rw [results_cell_tmp rfl]; simp [asAddr, Result.andThen, (HD9.out.setD (cellsC c (.slice (some ⟨g, 0, none⟩) (n + 1) cap7))).Z.loadVar44]) rfl ⟨(HD9.out.setD _).B, .inl ⟨{ c with xs := put c.xs a j }, some ⟨g, 0, none⟩, cap7, ⟨HZ.out, HK.out, .inr ⟨HI.out, by rw [HN.out]; omega, j, HS9.out, rfl⟩⟩, ?_, ?_⟩⟩
          · show _ = Ending.returned (.tuple #[.agg (cellsC c (.slice (some ⟨g, 0, none⟩) (put c.xs a j).length cap7)), .int .i64 0])
            rw [hpl]
          · show At _ _ _ (.slice (some ⟨g, 0, none⟩) (put c.xs a j).length cap7) (put c.xs a j)
            exact Cells.at (Cells.of_block HC9.out (setRow_heap _ _ _ _ HCAP.out.2.2.2.1) (by simp [World.setRow])) rfl (by rw [hpl]; exact HCAP.out.1) HCAP.out.2.1
      · go_wp2
        refine bodyPost_ret (v := .tuple #[.agg (cellsC c (.slice a2 n k2)), .int .i64 0]) (by rw [results_cell_tmp rfl]; simp [asAddr, Result.andThen, (HD3.out.setD (cellsC c (.slice a2 n k2))).Z.loadVar44]) rfl ⟨(HD3.out.setD _).B, .inl ⟨c, a2, k2, ⟨HZ.out, HK.out, .inl ⟨HI.out, rfl⟩⟩, by rw [HN.out], ?_⟩⟩
        rw [HN.out]
        have := HO3.out.of (w' := (w2.setRow w.heap.size (cellsC c (.slice a2 n k2))).setRow (w.heap.size + 1) (cellsC c (.slice a2 n k2))) (Nat.le_refl _) (fun g hg => setRow_heap _ _ _ _ (by have := HZL.out; omega))
        exact at_of_owned this
  · have HZ := Lib.hid hz
    have HIN := Lib.hid (in_bad a HM.out hz)
    obtain ⟨z, hzc⟩ : ∃ z, chkC c = z := ⟨_, rfl⟩
    rw [hzc] at HIN hz
    have h' : (z != 0) = true := by simpa using hz
    have HZ2 := Lib.hid hz
    clear hm hzc hz
    go_enter Try.func6, Try.ntmps6
    go_wp2_with fail
    refine HIN.out.mono ?_
    rintro e w1 ⟨rfl, hb1⟩
    have HD1 := Lib.hid (HD.out.keep hb1)
    have hst := HD1.out.Z.store44 zeroC none 0 0
    clear hb1 hl
    go_wp2
    exact bodyPost_ret (v := .tuple #[.agg (cellsC zeroC nilS), .int .i64 z]) (by rw [results_cell_tmp rfl]; simp [asAddr, Result.andThen, (HD1.out.setD (cellsC zeroC nilS)).Z.loadVar44]) rfl ⟨(HD1.out.setD _).B, .inr ⟨fun h => HZ.out h.1, z, HZ2.out, rfl⟩⟩
end Go.Proofs.Ytjkephmfpoekgaa.CredLaw
