/- The walk of ringkeep5.IrqLast. -/
import Derived.Test.YtddfgdodpjmjfaaIrqAll
namespace Go.Proofs.Ytddfgdodpjmjfaa.IrqLaw
open Go.RowKit
set_option linter.unusedVariables false

theorem info3 : (Try.prog.info? 3).map (fun i => (i.zero, i.size, i.bytes)) = some (some (.int .i64 0), 1, 8) := by kernel_rfl
theorem info4 : (Try.prog.info? 4).map (fun i => (i.zero, i.size, i.bytes)) = some (some (.bool false), 1, 1) := by kernel_rfl

/-- the three slices that are appended to -/
structure Three (B : Nat) (w : World) (v7 v8 v9 : Value) (ns hs : List Int) (rs : List Bool) : Prop where
  o7 : w.ownsRow B 3 1 v7 ns.length (ns.map (Value.int .i64))
  o8 : w.ownsRow B 3 1 v8 hs.length (hs.map (Value.int .i64))
  o9 : w.ownsRow B 4 1 v9 rs.length (rs.map Value.bool)
  a78 : Apart v7 v8
  a79 : Apart v7 v9
  a89 : Apart v8 v9
theorem Three.alloc {B : Nat} {w : World} {v7 v8 v9 : Value} {ns hs : List Int} {rs : List Bool} (h : Three B w v7 v8 v9 ns hs rs) (o : Obj) : Three B (w.alloc o) v7 v8 v9 ns hs rs :=
  ⟨h.o7.alloc o, h.o8.alloc o, h.o9.alloc o, h.a78, h.a79, h.a89⟩
theorem Three.put7 {B : Nat} {w w1 : World} {v7 v8 v9 v : Value} {ns hs : List Int} {rs : List Bool} {x : Int} {o : Obj} (h : Three B w v7 v8 v9 ns hs rs) (hown : w1.ownsRow B 3 1 v (ns.length + 1) (ns.map (Value.int .i64) ++ [.int .i64 x])) (hgrow : (w.alloc o).grownBy w1 v7.ownBlock)
    (hfresh : v.ownBlock = v7.ownBlock ∨ ∃ g, w.heap.size + 1 ≤ g ∧ v.ownBlock = some g) : Three B w1 v v8 v9 (ns ++ [x]) hs rs := by
  have hf : v.ownBlock = v7.ownBlock ∨ ∃ g, (w.alloc o).heap.size ≤ g ∧ v.ownBlock = some g := by rw [World.size_alloc]; exact hfresh
  obtain ⟨k8, p8⟩ := kept_apart (h.alloc o).o8 hgrow hf h.a78
  obtain ⟨k9, p9⟩ := kept_apart (h.alloc o).o9 hgrow hf h.a79
  exact ⟨by simpa using hown, k8, k9, p8, p9, h.a89⟩
theorem Three.put8 {B : Nat} {w w1 : World} {v7 v8 v9 v : Value} {ns hs : List Int} {rs : List Bool} {x : Int} {o : Obj} (h : Three B w v7 v8 v9 ns hs rs) (hown : w1.ownsRow B 3 1 v (hs.length + 1) (hs.map (Value.int .i64) ++ [.int .i64 x])) (hgrow : (w.alloc o).grownBy w1 v8.ownBlock)
    (hfresh : v.ownBlock = v8.ownBlock ∨ ∃ g, w.heap.size + 1 ≤ g ∧ v.ownBlock = some g) : Three B w1 v7 v v9 ns (hs ++ [x]) rs := by
  have hf : v.ownBlock = v8.ownBlock ∨ ∃ g, (w.alloc o).heap.size ≤ g ∧ v.ownBlock = some g := by rw [World.size_alloc]; exact hfresh
  obtain ⟨k7, p7⟩ := kept_apart (h.alloc o).o7 hgrow hf h.a78.symm
  obtain ⟨k9, p9⟩ := kept_apart (h.alloc o).o9 hgrow hf h.a89
  exact ⟨k7, by simpa using hown, k9, p7.symm, h.a79, p9⟩
theorem Three.put9 {B : Nat} {w w1 : World} {v7 v8 v9 v : Value} {ns hs : List Int} {rs : List Bool} {x : Bool} {o : Obj} (h : Three B w v7 v8 v9 ns hs rs) (hown : w1.ownsRow B 4 1 v (rs.length + 1) (rs.map Value.bool ++ [.bool x])) (hgrow : (w.alloc o).grownBy w1 v9.ownBlock)
    (hfresh : v.ownBlock = v9.ownBlock ∨ ∃ g, w.heap.size + 1 ≤ g ∧ v.ownBlock = some g) : Three B w1 v7 v8 v ns hs (rs ++ [x]) := by
  have hf : v.ownBlock = v9.ownBlock ∨ ∃ g, (w.alloc o).heap.size ≤ g ∧ v.ownBlock = some g := by rw [World.size_alloc]; exact hfresh
  obtain ⟨k7, p7⟩ := kept_apart (h.alloc o).o7 hgrow hf h.a79.symm
  obtain ⟨k8, p8⟩ := kept_apart (h.alloc o).o8 hgrow hf h.a89.symm
  exact ⟨k7, k8, by simpa using hown, h.a78, p7.symm, p8.symm⟩

set_option maxRecDepth 100000 in
set_option maxHeartbeats 4000000 in
theorem irqlast_any {w : World} {va vb : Value} {news : List Int} {rings : List Bool} (more : Int) (hA : At (Value.int .i64) 0 w va news) (hB : At Value.bool false w vb rings) :
    Calls Try.prog 8 #[va, vb, .int .i64 more] w fun e w' => e = .returned (.bool true) ∧ Below w.heap.size w w' := by
  obtain ⟨i3, hi3, hz30, hz31, hz32⟩ := info_parts info3
  obtain ⟨i4, hi4, hz40, hz41, hz42⟩ := info_parts info4
  have hm0 : 0 ≤ more % 9 := Int.emod_nonneg _ (by decide)
  have hm1 : more % 9 < 9 := Int.emod_lt_of_pos _ (by decide)
  obtain ⟨mo, hmo⟩ : ∃ mo, mo = more % 9 := ⟨_, rfl⟩
  rw [← hmo] at hm0 hm1
  have HMO := Lib.hid hmo
  clear hmo
  obtain ⟨a, ca, rfl, hla, hma, ha⟩ := hA
  obtain ⟨b, cb, rfl, hlb, hmb, hb⟩ := hB
  obtain ⟨n, hn⟩ : ∃ n, n = news.length := ⟨_, rfl⟩
  obtain ⟨rn, hrn⟩ : ∃ n, n = rings.length := ⟨_, rfl⟩
  rw [← hn] at hla ⊢
  rw [← hrn] at hlb ⊢
  simp only [maxLen] at hma hmb
  obtain ⟨m, hm⟩ : ∃ m, m = min n 20 := ⟨_, rfl⟩
  have HN := Lib.hid hn
  have HRN := Lib.hid hrn
  have HA := Lib.hid ha
  have HB := Lib.hid hb
  clear hn hrn ha hb
  go_enter Try.func8, Try.ntmps8
  go_wp2_with fail
  refine (lines_any _).mono ?_
  rintro e w1 ⟨rfl, hb1⟩
  have hmc : (n ≤ 20 ∧ m = n) ∨ (20 < n ∧ m = 20) := by omega
  clear hm
  rcases hmc with ⟨h20, rfl⟩ | ⟨h20, rfl⟩
  · go_wp2_with fail
    have hbw : Below w.heap.size w w1 := hb1
    clear hb1
    go_loopw [7, 8, 9, 22] (fun v7 v8 v9 iv wr => ∃ (k : Nat) (ns hs : List Int) (rs : List Bool), k ≤ m ∧ iv = .int .i64 k ∧ Hid (ns.length = k ∧ hs = List.replicate k 1 ∧ rs.length = k ∧ ∀ x ∈ ns, 0 ≤ x ∧ x ≤ 19) ∧ Three w.heap.size wr v7 v8 v9 ns hs rs ∧ Below w.heap.size w wr)
      (fun _ _ _ iv _ => m - (intOf iv).toNat)
    case atStart => exact ⟨0, [], [], [], Nat.zero_le _, rfl, ⟨rfl, rfl, rfl, by simp⟩, ⟨World.ownsRow_nil _ _ _ _, World.ownsRow_nil _ _ _ _, World.ownsRow_nil _ _ _ _, apart_nil _, apart_nil _, apart_nil _⟩, hbw⟩
    case round =>
      clear hbw
      obtain ⟨k, ns, hs, rs, hk, rfl, HF, hT, hbw⟩ := hrel
      have hnsl : ns.length ≤ 20 := by have := HF.out.1; omega
      have hhsl : hs.length ≤ 20 := by rw [HF.out.2.1, List.length_replicate]; omega
      have hrsl : rs.length ≤ 20 := by have := HF.out.2.2.1; omega
      by_cases hlt : k < m
      · have hkn : k < m := by omega
        rcases HA.out with hemp | ⟨ba, oa, hae, hlta, hca⟩
        · have := HN.out; rw [hemp] at this; simp at this; omega
        subst hae
        have g1 := (hbw.cell (p := ⟨ba, oa + k, none⟩) hlta).trans (hca k (by rw [← HN.out]; exact hkn))
        have HCA := Lib.hid hca
        clear hca
        obtain ⟨x, hx⟩ : ∃ x, x = news.getD k 0 := ⟨_, rfl⟩
        rw [← hx] at g1
        have hx0 : 0 ≤ x % 20 := Int.emod_nonneg _ (by decide)
        have hx1 : x % 20 < 20 := Int.emod_lt_of_pos _ (by decide)
        have HX := Lib.hid hx
        clear hx
        go_wp2_with fail
        refine (within_any _ _ _ (by decide) (by decide)).mono ?_
        rintro e w2 ⟨rfl, rfl⟩
        go_wp2_with (at_builtin; refine wpList_append_fresh _ rfl (.tmp 25) (.tmp 31) 42 rfl w.heap.size 3 i3 (.int .i64 0) 1 8 Try.underlying42 hi3 hz30 hz31 hz32 rfl (by decide) _ _ _ rfl (hT.o7.alloc _) ⟨wr.heap.size, 0, none⟩ 1 1 [.int .i64 (x % 20)] rfl rfl (cells1_new _ _ _) one1 (by unfold maxLen; omega) (by omega) (by have := hbw.size; simp; omega) ?_)
        intro u7 w3 hown hgrow hfresh
        have hthree := hT.put7 hown hgrow hfresh
        have hbw' := (hbw.alloc hbw.size (.cells #[.int .i64 (x % 20)] 3)).grown hgrow (by have := hbw.size; simp; omega) (fun g hg => (hT.o7.lt g hg).1)
        clear hown hgrow hfresh
        replace hT := hthree
        replace hbw := hbw'
        clear hthree hbw'
        go_wp2_with (at_builtin; refine wpList_append_fresh _ rfl (.tmp 33) (.tmp 34) 42 rfl w.heap.size 3 i3 (.int .i64 0) 1 8 Try.underlying42 hi3 hz30 hz31 hz32 rfl (by decide) _ _ _ rfl (hT.o8.alloc _) ⟨w3.heap.size, 0, none⟩ 1 1 [.int .i64 1] rfl rfl (cells1_new _ _ _) one1 (by unfold maxLen; omega) (by omega) (by have := hbw.size; simp; omega) ?_)
        intro u8 w4 hown hgrow hfresh
        have hthree := hT.put8 hown hgrow hfresh
        have hbw' := (hbw.alloc hbw.size (.cells #[.int .i64 1] 3)).grown hgrow (by have := hbw.size; simp; omega) (fun g hg => (hT.o8.lt g hg).1)
        clear hown hgrow hfresh
        replace hT := hthree
        replace hbw := hbw'
        clear hthree hbw'
        by_cases hkr : k < rn
        · rcases HB.out with hemp | ⟨bb, ob, hbe, hltb, hcb⟩
          · have := HRN.out; rw [hemp] at this; simp at this; omega
          subst hbe
          have g2 := (hbw.cell (p := ⟨bb, ob + k, none⟩) hltb).trans (hcb k (by rw [← HRN.out]; exact hkr))
          have HCB := Lib.hid hcb
          clear hcb
          obtain ⟨y, hy⟩ : ∃ y, y = rings.getD k false := ⟨_, rfl⟩
          rw [← hy] at g2
          clear hy
          go_wp2_with (at_builtin; refine wpList_append_fresh _ rfl (.tmp 36) (.tmp 47) 51 rfl w.heap.size 4 i4 (.bool false) 1 1 Try.underlying51 hi4 hz40 hz41 hz42 rfl (by decide) _ _ _ rfl (hT.o9.alloc _) ⟨w4.heap.size, 0, none⟩ 1 1 [.bool y] rfl rfl (cells1_new _ _ _) oneB (by unfold maxLen; omega) (by omega) (by have := hbw.size; simp; omega) ?_)
          intro u9 w5 hown hgrow hfresh
          have hthree := hT.put9 hown hgrow hfresh
          have hbw' := (hbw.alloc hbw.size (.cells #[.bool y] 4)).grown hgrow (by have := hbw.size; simp; omega) (fun g hg => (hT.o9.lt g hg).1)
          clear hown hgrow hfresh
          replace hT := hthree
          replace hbw := hbw'
          clear hthree hbw'
          have HF2 : Hid ((ns ++ [x % 20]).length = k + 1 ∧ hs ++ [1] = List.replicate (k + 1) 1 ∧ (rs ++ [y]).length = k + 1 ∧ ∀ z ∈ ns ++ [x % 20], 0 ≤ z ∧ z ≤ 19) := by
            obtain ⟨f1, f2, f3, f4⟩ := HF.out
            refine ⟨by simp [f1], by rw [f2, List.replicate_succ'], by simp [f3], fun z hz => ?_⟩
            rcases List.mem_append.1 hz with hz | hz
            · exact f4 z hz
            · simp at hz; subst hz; omega
          go_wp2
          go_roundw
          case rel => exact ⟨k + 1, ns ++ [x % 20], hs ++ [1], rs ++ [y], by omega, by go_num, HF2, hT, hbw⟩
          case measure => simp [intOf]; omega
        · skip
          go_wp2_with (at_builtin; refine wpList_append_fresh _ rfl (.tmp 36) (.tmp 47) 51 rfl w.heap.size 4 i4 (.bool false) 1 1 Try.underlying51 hi4 hz40 hz41 hz42 rfl (by decide) _ _ _ rfl (hT.o9.alloc _) ⟨w4.heap.size, 0, none⟩ 1 1 [.bool false] rfl rfl (cells1_new _ _ _) oneB (by unfold maxLen; omega) (by omega) (by have := hbw.size; simp; omega) ?_)
          intro u9 w5 hown hgrow hfresh
          have hthree := hT.put9 hown hgrow hfresh
          have hbw' := (hbw.alloc hbw.size (.cells #[.bool false] 4)).grown hgrow (by have := hbw.size; simp; omega) (fun g hg => (hT.o9.lt g hg).1)
          clear hown hgrow hfresh
          replace hT := hthree
          replace hbw := hbw'
          clear hthree hbw'
          have HF2 : Hid ((ns ++ [x % 20]).length = k + 1 ∧ hs ++ [1] = List.replicate (k + 1) 1 ∧ (rs ++ [false]).length = k + 1 ∧ ∀ z ∈ ns ++ [x % 20], 0 ≤ z ∧ z ≤ 19) := by
            obtain ⟨f1, f2, f3, f4⟩ := HF.out
            refine ⟨by simp [f1], by rw [f2, List.replicate_succ'], by simp [f3], fun z hz => ?_⟩
            rcases List.mem_append.1 hz with hz | hz
            · exact f4 z hz
            · simp at hz; subst hz; omega
          go_wp2
          go_roundw
          case rel => exact ⟨k + 1, ns ++ [x % 20], hs ++ [1], rs ++ [false], by omega, by go_num, HF2, hT, hbw⟩
          case measure => simp [intOf]; omega
      · obtain rfl : k = m := by omega
        go_wp2_with (at_builtin; refine wpList_append_fresh _ rfl (.tmp 50) (.tmp 51) 42 rfl w.heap.size 3 i3 (.int .i64 0) 1 8 Try.underlying42 hi3 hz30 hz31 hz32 rfl (by decide) _ _ _ rfl (hT.o7.alloc _) ⟨wr.heap.size, 0, none⟩ 1 1 [.int .i64 0] rfl rfl (cells1_new _ _ _) one1 (by unfold maxLen; omega) (by omega) (by have := hbw.size; simp; omega) ?_)
        intro x7 w3 hown hgrow hfresh
        have hthree := hT.put7 hown hgrow hfresh
        have hbw' := (hbw.alloc hbw.size (.cells #[.int .i64 0] 3)).grown hgrow (by have := hbw.size; simp; omega) (fun g hg => (hT.o7.lt g hg).1)
        clear hown hgrow hfresh
        replace hT := hthree
        replace hbw := hbw'
        clear hthree hbw'
        go_wp2_with (at_builtin; refine wpList_append_fresh _ rfl (.tmp 53) (.tmp 54) 42 rfl w.heap.size 3 i3 (.int .i64 0) 1 8 Try.underlying42 hi3 hz30 hz31 hz32 rfl (by decide) _ _ _ rfl (hT.o8.alloc _) ⟨w3.heap.size, 0, none⟩ 1 1 [.int .i64 100] rfl rfl (cells1_new _ _ _) one1 (by unfold maxLen; omega) (by omega) (by have := hbw.size; simp; omega) ?_)
        intro x8 w4 hown hgrow hfresh
        have hthree := hT.put8 hown hgrow hfresh
        have hbw' := (hbw.alloc hbw.size (.cells #[.int .i64 100] 3)).grown hgrow (by have := hbw.size; simp; omega) (fun g hg => (hT.o8.lt g hg).1)
        clear hown hgrow hfresh
        replace hT := hthree
        replace hbw := hbw'
        clear hthree hbw'
        go_wp2_with (at_builtin; refine wpList_append_fresh _ rfl (.tmp 56) (.tmp 57) 51 rfl w.heap.size 4 i4 (.bool false) 1 1 Try.underlying51 hi4 hz40 hz41 hz42 rfl (by decide) _ _ _ rfl (hT.o9.alloc _) ⟨w4.heap.size, 0, none⟩ 1 1 [.bool true] rfl rfl (cells1_new _ _ _) oneB (by unfold maxLen; omega) (by omega) (by have := hbw.size; simp; omega) ?_)
        intro x9 w5 hown hgrow hfresh
        have hthree := hT.put9 hown hgrow hfresh
        have hbw' := (hbw.alloc hbw.size (.cells #[.bool true] 4)).grown hgrow (by have := hbw.size; simp; omega) (fun g hg => (hT.o9.lt g hg).1)
        clear hown hgrow hfresh
        replace hT := hthree
        replace hbw := hbw'
        clear hthree hbw'
        go_wp2_with fail
        refine (within_any _ _ _ (by decide) (by decide)).mono ?_
        rintro e w6 ⟨rfl, rfl⟩
        rw [← HMO.out]
        obtain ⟨ns1, hns1⟩ : ∃ l, l = ns ++ [0] := ⟨_, rfl⟩
        obtain ⟨hs1, hhs1⟩ : ∃ l, l = hs ++ [100] := ⟨_, rfl⟩
        obtain ⟨rs1, hrs1⟩ : ∃ l, l = rs ++ [true] := ⟨_, rfl⟩
        rw [← hns1, ← hhs1, ← hrs1] at hT
        have E1 := Lib.hid hns1
        have E2 := Lib.hid hhs1
        have E3 := Lib.hid hrs1
        have hn1 : ns1.length ≤ 21 := by rw [hns1]; simp; omega
        have hn2 : hs1.length ≤ 21 := by rw [hhs1]; simp; omega
        have hn3 : rs1.length ≤ 21 := by rw [hrs1]; simp; omega
        clear hns1 hhs1 hrs1
        go_wp2_with fail
        go_loopw [7, 8, 9, 62] (fun v7 v8 v9 iv wr => ∃ (j : Nat) (na ha : List Int) (ra : List Bool), (j : Int) ≤ 4 + mo ∧ iv = .int .i64 j ∧ Hid (na = ns1 ++ List.replicate j 0 ∧ ha = hs1 ++ List.replicate j 100 ∧ ra = rs1 ++ List.replicate j false) ∧ Three w.heap.size wr v7 v8 v9 na ha ra ∧ Below w.heap.size w wr)
          (fun _ _ _ iv _ => (4 + mo - intOf iv).toNat)
        case atStart => exact ⟨0, ns1, hs1, rs1, by omega, rfl, ⟨by simp, by simp, by simp⟩, hT, hbw⟩
        case round =>
          clear hT hbw
          obtain ⟨j, na, ha, ra, hj, rfl, HJ, hT, hbw⟩ := hrel
          have hnal : na.length ≤ 40 := by rw [HJ.out.1]; simp; omega
          have hhal : ha.length ≤ 40 := by rw [HJ.out.2.1]; simp; omega
          have hral : ra.length ≤ 40 := by rw [HJ.out.2.2]; simp; omega
          by_cases hjl : (j : Int) < 4 + mo
          · skip
            go_wp2_with (at_builtin; refine wpList_append_fresh _ rfl (.tmp 64) (.tmp 65) 42 rfl w.heap.size 3 i3 (.int .i64 0) 1 8 Try.underlying42 hi3 hz30 hz31 hz32 rfl (by decide) _ _ _ rfl (hT.o7.alloc _) ⟨wr.heap.size, 0, none⟩ 1 1 [.int .i64 0] rfl rfl (cells1_new _ _ _) one1 (by unfold maxLen; omega) (by omega) (by have := hbw.size; simp; omega) ?_)
            intro y7 w7 hown hgrow hfresh
            have hthree := hT.put7 hown hgrow hfresh
            have hbw' := (hbw.alloc hbw.size (.cells #[.int .i64 0] 3)).grown hgrow (by have := hbw.size; simp; omega) (fun g hg => (hT.o7.lt g hg).1)
            clear hown hgrow hfresh
            replace hT := hthree
            replace hbw := hbw'
            clear hthree hbw'
            go_wp2_with (at_builtin; refine wpList_append_fresh _ rfl (.tmp 67) (.tmp 68) 42 rfl w.heap.size 3 i3 (.int .i64 0) 1 8 Try.underlying42 hi3 hz30 hz31 hz32 rfl (by decide) _ _ _ rfl (hT.o8.alloc _) ⟨w7.heap.size, 0, none⟩ 1 1 [.int .i64 100] rfl rfl (cells1_new _ _ _) one1 (by unfold maxLen; omega) (by omega) (by have := hbw.size; simp; omega) ?_)
            intro y8 w8 hown hgrow hfresh
            have hthree := hT.put8 hown hgrow hfresh
            have hbw' := (hbw.alloc hbw.size (.cells #[.int .i64 100] 3)).grown hgrow (by have := hbw.size; simp; omega) (fun g hg => (hT.o8.lt g hg).1)
            clear hown hgrow hfresh
            replace hT := hthree
            replace hbw := hbw'
            clear hthree hbw'
            go_wp2_with (at_builtin; refine wpList_append_fresh _ rfl (.tmp 70) (.tmp 71) 51 rfl w.heap.size 4 i4 (.bool false) 1 1 Try.underlying51 hi4 hz40 hz41 hz42 rfl (by decide) _ _ _ rfl (hT.o9.alloc _) ⟨w8.heap.size, 0, none⟩ 1 1 [.bool false] rfl rfl (cells1_new _ _ _) oneB (by unfold maxLen; omega) (by omega) (by have := hbw.size; simp; omega) ?_)
            intro y9 w9 hown hgrow hfresh
            have hthree := hT.put9 hown hgrow hfresh
            have hbw' := (hbw.alloc hbw.size (.cells #[.bool false] 4)).grown hgrow (by have := hbw.size; simp; omega) (fun g hg => (hT.o9.lt g hg).1)
            clear hown hgrow hfresh
            replace hT := hthree
            replace hbw := hbw'
            clear hthree hbw'
            have HJ2 : Hid (na ++ [0] = ns1 ++ List.replicate (j + 1) 0 ∧ ha ++ [100] = hs1 ++ List.replicate (j + 1) 100 ∧ ra ++ [false] = rs1 ++ List.replicate (j + 1) false) := by
              obtain ⟨f1, f2, f3⟩ := HJ.out
              exact ⟨by rw [f1, List.replicate_succ', List.append_assoc], by rw [f2, List.replicate_succ', List.append_assoc], by rw [f3, List.replicate_succ', List.append_assoc]⟩
            go_wp2
            go_roundw
            case rel => exact ⟨j + 1, na ++ [0], ha ++ [100], ra ++ [false], by omega, by go_num, HJ2, hT, hbw⟩
            case measure => simp [intOf]; omega
          · have hA7 := at_of_owned (f := Value.int .i64) (d := 0) hT.o7
            have hA8 := at_of_owned (f := Value.int .i64) (d := 0) hT.o8
            have hA9 := at_of_owned (f := Value.bool) (d := false) hT.o9
            have HS := Lib.hid (serve_is hA8 hA7 hA9)
            have hl := last_law ns rs j (by rw [HF.out.1, HF.out.2.2.1]) (by rw [HF.out.1]; omega) HF.out.2.2.2 (by omega) (by omega)
            have e1 : na = ns ++ List.replicate (j + 1) 0 := by rw [HJ.out.1, E1.out, List.replicate_succ, List.append_assoc]; rfl
            have e2 : ha = List.replicate ns.length 1 ++ List.replicate (j + 1) 100 := by rw [HJ.out.2.1, E2.out, HF.out.1, ← HF.out.2.1, List.replicate_succ, List.append_assoc]; rfl
            have e3 : ra = rs ++ true :: List.replicate j false := by rw [HJ.out.2.2, E3.out, List.append_assoc]; rfl
            rw [← e1, ← e2, ← e3] at hl
            obtain ⟨l1, l2⟩ := hl
            have L1 := Lib.hid l1
            have L2 := Lib.hid l2
            clear l1 l2 e1 e2 e3 hA7 hA8 hA9
            go_wp2_with fail
            refine HS.out.mono ?_
            rintro e w9 ⟨rfl, hb9⟩
            rw [L1.out, L2.out]
            go_wp2
            go_ret
            exact ⟨rfl, hbw.trans (hb9.mono hbw.size)⟩
  · go_wp2_with fail
    have hbw : Below w.heap.size w w1 := hb1
    clear hb1
    go_loopw [7, 8, 9, 22] (fun v7 v8 v9 iv wr => ∃ (k : Nat) (ns hs : List Int) (rs : List Bool), k ≤ 20 ∧ iv = .int .i64 k ∧ Hid (ns.length = k ∧ hs = List.replicate k 1 ∧ rs.length = k ∧ ∀ x ∈ ns, 0 ≤ x ∧ x ≤ 19) ∧ Three w.heap.size wr v7 v8 v9 ns hs rs ∧ Below w.heap.size w wr)
      (fun _ _ _ iv _ => 20 - (intOf iv).toNat)
    case atStart => exact ⟨0, [], [], [], Nat.zero_le _, rfl, ⟨rfl, rfl, rfl, by simp⟩, ⟨World.ownsRow_nil _ _ _ _, World.ownsRow_nil _ _ _ _, World.ownsRow_nil _ _ _ _, apart_nil _, apart_nil _, apart_nil _⟩, hbw⟩
    case round =>
      clear hbw
      obtain ⟨k, ns, hs, rs, hk, rfl, HF, hT, hbw⟩ := hrel
      have hnsl : ns.length ≤ 20 := by have := HF.out.1; omega
      have hhsl : hs.length ≤ 20 := by rw [HF.out.2.1, List.length_replicate]; omega
      have hrsl : rs.length ≤ 20 := by have := HF.out.2.2.1; omega
      by_cases hlt : k < 20
      · have hkn : k < n := by omega
        rcases HA.out with hemp | ⟨ba, oa, hae, hlta, hca⟩
        · have := HN.out; rw [hemp] at this; simp at this; omega
        subst hae
        have g1 := (hbw.cell (p := ⟨ba, oa + k, none⟩) hlta).trans (hca k (by rw [← HN.out]; exact hkn))
        have HCA := Lib.hid hca
        clear hca
        obtain ⟨x, hx⟩ : ∃ x, x = news.getD k 0 := ⟨_, rfl⟩
        rw [← hx] at g1
        have hx0 : 0 ≤ x % 20 := Int.emod_nonneg _ (by decide)
        have hx1 : x % 20 < 20 := Int.emod_lt_of_pos _ (by decide)
        have HX := Lib.hid hx
        clear hx
        go_wp2_with fail
        refine (within_any _ _ _ (by decide) (by decide)).mono ?_
        rintro e w2 ⟨rfl, rfl⟩
        go_wp2_with (at_builtin; refine wpList_append_fresh _ rfl (.tmp 25) (.tmp 31) 42 rfl w.heap.size 3 i3 (.int .i64 0) 1 8 Try.underlying42 hi3 hz30 hz31 hz32 rfl (by decide) _ _ _ rfl (hT.o7.alloc _) ⟨wr.heap.size, 0, none⟩ 1 1 [.int .i64 (x % 20)] rfl rfl (cells1_new _ _ _) one1 (by unfold maxLen; omega) (by omega) (by have := hbw.size; simp; omega) ?_)
        intro u7 w3 hown hgrow hfresh
        have hthree := hT.put7 hown hgrow hfresh
        have hbw' := (hbw.alloc hbw.size (.cells #[.int .i64 (x % 20)] 3)).grown hgrow (by have := hbw.size; simp; omega) (fun g hg => (hT.o7.lt g hg).1)
        clear hown hgrow hfresh
        replace hT := hthree
        replace hbw := hbw'
        clear hthree hbw'
        go_wp2_with (at_builtin; refine wpList_append_fresh _ rfl (.tmp 33) (.tmp 34) 42 rfl w.heap.size 3 i3 (.int .i64 0) 1 8 Try.underlying42 hi3 hz30 hz31 hz32 rfl (by decide) _ _ _ rfl (hT.o8.alloc _) ⟨w3.heap.size, 0, none⟩ 1 1 [.int .i64 1] rfl rfl (cells1_new _ _ _) one1 (by unfold maxLen; omega) (by omega) (by have := hbw.size; simp; omega) ?_)
        intro u8 w4 hown hgrow hfresh
        have hthree := hT.put8 hown hgrow hfresh
        have hbw' := (hbw.alloc hbw.size (.cells #[.int .i64 1] 3)).grown hgrow (by have := hbw.size; simp; omega) (fun g hg => (hT.o8.lt g hg).1)
        clear hown hgrow hfresh
        replace hT := hthree
        replace hbw := hbw'
        clear hthree hbw'
        by_cases hkr : k < rn
        · rcases HB.out with hemp | ⟨bb, ob, hbe, hltb, hcb⟩
          · have := HRN.out; rw [hemp] at this; simp at this; omega
          subst hbe
          have g2 := (hbw.cell (p := ⟨bb, ob + k, none⟩) hltb).trans (hcb k (by rw [← HRN.out]; exact hkr))
          have HCB := Lib.hid hcb
          clear hcb
          obtain ⟨y, hy⟩ : ∃ y, y = rings.getD k false := ⟨_, rfl⟩
          rw [← hy] at g2
          clear hy
          go_wp2_with (at_builtin; refine wpList_append_fresh _ rfl (.tmp 36) (.tmp 47) 51 rfl w.heap.size 4 i4 (.bool false) 1 1 Try.underlying51 hi4 hz40 hz41 hz42 rfl (by decide) _ _ _ rfl (hT.o9.alloc _) ⟨w4.heap.size, 0, none⟩ 1 1 [.bool y] rfl rfl (cells1_new _ _ _) oneB (by unfold maxLen; omega) (by omega) (by have := hbw.size; simp; omega) ?_)
          intro u9 w5 hown hgrow hfresh
          have hthree := hT.put9 hown hgrow hfresh
          have hbw' := (hbw.alloc hbw.size (.cells #[.bool y] 4)).grown hgrow (by have := hbw.size; simp; omega) (fun g hg => (hT.o9.lt g hg).1)
          clear hown hgrow hfresh
          replace hT := hthree
          replace hbw := hbw'
          clear hthree hbw'
          have HF2 : Hid ((ns ++ [x % 20]).length = k + 1 ∧ hs ++ [1] = List.replicate (k + 1) 1 ∧ (rs ++ [y]).length = k + 1 ∧ ∀ z ∈ ns ++ [x % 20], 0 ≤ z ∧ z ≤ 19) := by
            obtain ⟨f1, f2, f3, f4⟩ := HF.out
            refine ⟨by simp [f1], by rw [f2, List.replicate_succ'], by simp [f3], fun z hz => ?_⟩
            rcases List.mem_append.1 hz with hz | hz
            · exact f4 z hz
            · simp at hz; subst hz; omega
          go_wp2
          go_roundw
          case rel => exact ⟨k + 1, ns ++ [x % 20], hs ++ [1], rs ++ [y], by omega, by go_num, HF2, hT, hbw⟩
          case measure => simp [intOf]; omega
        · skip
          go_wp2_with (at_builtin; refine wpList_append_fresh _ rfl (.tmp 36) (.tmp 47) 51 rfl w.heap.size 4 i4 (.bool false) 1 1 Try.underlying51 hi4 hz40 hz41 hz42 rfl (by decide) _ _ _ rfl (hT.o9.alloc _) ⟨w4.heap.size, 0, none⟩ 1 1 [.bool false] rfl rfl (cells1_new _ _ _) oneB (by unfold maxLen; omega) (by omega) (by have := hbw.size; simp; omega) ?_)
          intro u9 w5 hown hgrow hfresh
          have hthree := hT.put9 hown hgrow hfresh
          have hbw' := (hbw.alloc hbw.size (.cells #[.bool false] 4)).grown hgrow (by have := hbw.size; simp; omega) (fun g hg => (hT.o9.lt g hg).1)
          clear hown hgrow hfresh
          replace hT := hthree
          replace hbw := hbw'
          clear hthree hbw'
          have HF2 : Hid ((ns ++ [x % 20]).length = k + 1 ∧ hs ++ [1] = List.replicate (k + 1) 1 ∧ (rs ++ [false]).length = k + 1 ∧ ∀ z ∈ ns ++ [x % 20], 0 ≤ z ∧ z ≤ 19) := by
            obtain ⟨f1, f2, f3, f4⟩ := HF.out
            refine ⟨by simp [f1], by rw [f2, List.replicate_succ'], by simp [f3], fun z hz => ?_⟩
            rcases List.mem_append.1 hz with hz | hz
            · exact f4 z hz
            · simp at hz; subst hz; omega
          go_wp2
          go_roundw
          case rel => exact ⟨k + 1, ns ++ [x % 20], hs ++ [1], rs ++ [false], by omega, by go_num, HF2, hT, hbw⟩
          case measure => simp [intOf]; omega
      · obtain rfl : k = 20 := by omega
        go_wp2_with (at_builtin; refine wpList_append_fresh _ rfl (.tmp 50) (.tmp 51) 42 rfl w.heap.size 3 i3 (.int .i64 0) 1 8 Try.underlying42 hi3 hz30 hz31 hz32 rfl (by decide) _ _ _ rfl (hT.o7.alloc _) ⟨wr.heap.size, 0, none⟩ 1 1 [.int .i64 0] rfl rfl (cells1_new _ _ _) one1 (by unfold maxLen; omega) (by omega) (by have := hbw.size; simp; omega) ?_)
        intro x7 w3 hown hgrow hfresh
        have hthree := hT.put7 hown hgrow hfresh
        have hbw' := (hbw.alloc hbw.size (.cells #[.int .i64 0] 3)).grown hgrow (by have := hbw.size; simp; omega) (fun g hg => (hT.o7.lt g hg).1)
        clear hown hgrow hfresh
        replace hT := hthree
        replace hbw := hbw'
        clear hthree hbw'
        go_wp2_with (at_builtin; refine wpList_append_fresh _ rfl (.tmp 53) (.tmp 54) 42 rfl w.heap.size 3 i3 (.int .i64 0) 1 8 Try.underlying42 hi3 hz30 hz31 hz32 rfl (by decide) _ _ _ rfl (hT.o8.alloc _) ⟨w3.heap.size, 0, none⟩ 1 1 [.int .i64 100] rfl rfl (cells1_new _ _ _) one1 (by unfold maxLen; omega) (by omega) (by have := hbw.size; simp; omega) ?_)
        intro x8 w4 hown hgrow hfresh
        have hthree := hT.put8 hown hgrow hfresh
        have hbw' := (hbw.alloc hbw.size (.cells #[.int .i64 100] 3)).grown hgrow (by have := hbw.size; simp; omega) (fun g hg => (hT.o8.lt g hg).1)
        clear hown hgrow hfresh
        replace hT := hthree
        replace hbw := hbw'
        clear hthree hbw'
        go_wp2_with (at_builtin; refine wpList_append_fresh _ rfl (.tmp 56) (.tmp 57) 51 rfl w.heap.size 4 i4 (.bool false) 1 1 Try.underlying51 hi4 hz40 hz41 hz42 rfl (by decide) _ _ _ rfl (hT.o9.alloc _) ⟨w4.heap.size, 0, none⟩ 1 1 [.bool true] rfl rfl (cells1_new _ _ _) oneB (by unfold maxLen; omega) (by omega) (by have := hbw.size; simp; omega) ?_)
        intro x9 w5 hown hgrow hfresh
        have hthree := hT.put9 hown hgrow hfresh
        have hbw' := (hbw.alloc hbw.size (.cells #[.bool true] 4)).grown hgrow (by have := hbw.size; simp; omega) (fun g hg => (hT.o9.lt g hg).1)
        clear hown hgrow hfresh
        replace hT := hthree
        replace hbw := hbw'
        clear hthree hbw'
        go_wp2_with fail
        refine (within_any _ _ _ (by decide) (by decide)).mono ?_
        rintro e w6 ⟨rfl, rfl⟩
        rw [← HMO.out]
        obtain ⟨ns1, hns1⟩ : ∃ l, l = ns ++ [0] := ⟨_, rfl⟩
        obtain ⟨hs1, hhs1⟩ : ∃ l, l = hs ++ [100] := ⟨_, rfl⟩
        obtain ⟨rs1, hrs1⟩ : ∃ l, l = rs ++ [true] := ⟨_, rfl⟩
        rw [← hns1, ← hhs1, ← hrs1] at hT
        have E1 := Lib.hid hns1
        have E2 := Lib.hid hhs1
        have E3 := Lib.hid hrs1
        have hn1 : ns1.length ≤ 21 := by rw [hns1]; simp; omega
        have hn2 : hs1.length ≤ 21 := by rw [hhs1]; simp; omega
        have hn3 : rs1.length ≤ 21 := by rw [hrs1]; simp; omega
        clear hns1 hhs1 hrs1
        go_wp2_with fail
        go_loopw [7, 8, 9, 62] (fun v7 v8 v9 iv wr => ∃ (j : Nat) (na ha : List Int) (ra : List Bool), (j : Int) ≤ 4 + mo ∧ iv = .int .i64 j ∧ Hid (na = ns1 ++ List.replicate j 0 ∧ ha = hs1 ++ List.replicate j 100 ∧ ra = rs1 ++ List.replicate j false) ∧ Three w.heap.size wr v7 v8 v9 na ha ra ∧ Below w.heap.size w wr)
          (fun _ _ _ iv _ => (4 + mo - intOf iv).toNat)
        case atStart => exact ⟨0, ns1, hs1, rs1, by omega, rfl, ⟨by simp, by simp, by simp⟩, hT, hbw⟩
        case round =>
          clear hT hbw
          obtain ⟨j, na, ha, ra, hj, rfl, HJ, hT, hbw⟩ := hrel
          have hnal : na.length ≤ 40 := by rw [HJ.out.1]; simp; omega
          have hhal : ha.length ≤ 40 := by rw [HJ.out.2.1]; simp; omega
          have hral : ra.length ≤ 40 := by rw [HJ.out.2.2]; simp; omega
          by_cases hjl : (j : Int) < 4 + mo
          · skip
            go_wp2_with (at_builtin; refine wpList_append_fresh _ rfl (.tmp 64) (.tmp 65) 42 rfl w.heap.size 3 i3 (.int .i64 0) 1 8 Try.underlying42 hi3 hz30 hz31 hz32 rfl (by decide) _ _ _ rfl (hT.o7.alloc _) ⟨wr.heap.size, 0, none⟩ 1 1 [.int .i64 0] rfl rfl (cells1_new _ _ _) one1 (by unfold maxLen; omega) (by omega) (by have := hbw.size; simp; omega) ?_)
            intro y7 w7 hown hgrow hfresh
            have hthree := hT.put7 hown hgrow hfresh
            have hbw' := (hbw.alloc hbw.size (.cells #[.int .i64 0] 3)).grown hgrow (by have := hbw.size; simp; omega) (fun g hg => (hT.o7.lt g hg).1)
            clear hown hgrow hfresh
            replace hT := hthree
            replace hbw := hbw'
            clear hthree hbw'
            go_wp2_with (at_builtin; refine wpList_append_fresh _ rfl (.tmp 67) (.tmp 68) 42 rfl w.heap.size 3 i3 (.int .i64 0) 1 8 Try.underlying42 hi3 hz30 hz31 hz32 rfl (by decide) _ _ _ rfl (hT.o8.alloc _) ⟨w7.heap.size, 0, none⟩ 1 1 [.int .i64 100] rfl rfl (cells1_new _ _ _) one1 (by unfold maxLen; omega) (by omega) (by have := hbw.size; simp; omega) ?_)
            intro y8 w8 hown hgrow hfresh
            have hthree := hT.put8 hown hgrow hfresh
            have hbw' := (hbw.alloc hbw.size (.cells #[.int .i64 100] 3)).grown hgrow (by have := hbw.size; simp; omega) (fun g hg => (hT.o8.lt g hg).1)
            clear hown hgrow hfresh
            replace hT := hthree
            replace hbw := hbw'
            clear hthree hbw'
            go_wp2_with (at_builtin; refine wpList_append_fresh _ rfl (.tmp 70) (.tmp 71) 51 rfl w.heap.size 4 i4 (.bool false) 1 1 Try.underlying51 hi4 hz40 hz41 hz42 rfl (by decide) _ _ _ rfl (hT.o9.alloc _) ⟨w8.heap.size, 0, none⟩ 1 1 [.bool false] rfl rfl (cells1_new _ _ _) oneB (by unfold maxLen; omega) (by omega) (by have := hbw.size; simp; omega) ?_)
            intro y9 w9 hown hgrow hfresh
            have hthree := hT.put9 hown hgrow hfresh
            have hbw' := (hbw.alloc hbw.size (.cells #[.bool false] 4)).grown hgrow (by have := hbw.size; simp; omega) (fun g hg => (hT.o9.lt g hg).1)
            clear hown hgrow hfresh
            replace hT := hthree
            replace hbw := hbw'
            clear hthree hbw'
            have HJ2 : Hid (na ++ [0] = ns1 ++ List.replicate (j + 1) 0 ∧ ha ++ [100] = hs1 ++ List.replicate (j + 1) 100 ∧ ra ++ [false] = rs1 ++ List.replicate (j + 1) false) := by
              obtain ⟨f1, f2, f3⟩ := HJ.out
              exact ⟨by rw [f1, List.replicate_succ', List.append_assoc], by rw [f2, List.replicate_succ', List.append_assoc], by rw [f3, List.replicate_succ', List.append_assoc]⟩
            go_wp2
            go_roundw
            case rel => exact ⟨j + 1, na ++ [0], ha ++ [100], ra ++ [false], by omega, by go_num, HJ2, hT, hbw⟩
            case measure => simp [intOf]; omega
          · have hA7 := at_of_owned (f := Value.int .i64) (d := 0) hT.o7
            have hA8 := at_of_owned (f := Value.int .i64) (d := 0) hT.o8
            have hA9 := at_of_owned (f := Value.bool) (d := false) hT.o9
            have HS := Lib.hid (serve_is hA8 hA7 hA9)
            have hl := last_law ns rs j (by rw [HF.out.1, HF.out.2.2.1]) (by rw [HF.out.1]; omega) HF.out.2.2.2 (by omega) (by omega)
            have e1 : na = ns ++ List.replicate (j + 1) 0 := by rw [HJ.out.1, E1.out, List.replicate_succ, List.append_assoc]; rfl
            have e2 : ha = List.replicate ns.length 1 ++ List.replicate (j + 1) 100 := by rw [HJ.out.2.1, E2.out, HF.out.1, ← HF.out.2.1, List.replicate_succ, List.append_assoc]; rfl
            have e3 : ra = rs ++ true :: List.replicate j false := by rw [HJ.out.2.2, E3.out, List.append_assoc]; rfl
            rw [← e1, ← e2, ← e3] at hl
            obtain ⟨l1, l2⟩ := hl
            have L1 := Lib.hid l1
            have L2 := Lib.hid l2
            clear l1 l2 e1 e2 e3 hA7 hA8 hA9
            go_wp2_with fail
            refine HS.out.mono ?_
            rintro e w9 ⟨rfl, hb9⟩
            rw [L1.out, L2.out]
            go_wp2
            go_ret
            exact ⟨rfl, hbw.trans (hb9.mono hbw.size)⟩
end Go.Proofs.Ytddfgdodpjmjfaa.IrqLaw
