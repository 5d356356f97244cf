/- The law ringkeep5.OpenCounts of its Go body: every object that was opened is reported as closed exactly once. -/
import Derived.Test.YtddfgdodpjmjfaaOpenDrop
namespace Go.Proofs.Ytddfgdodpjmjfaa.OpenLaw
open Go.RowKit
set_option linter.unusedVariables false

theorem within_q (k n : Int) (w : World) (hn : 1 ≤ n) (hn' : n ≤ 4294967296) : Calls Try.prog 18 #[.int .i64 k, .int .i64 n] w fun e w' => e = .returned (.int .i64 (k % n)) ∧ w' = w :=
  (within_any k n w hn hn').mono fun e w' h => ⟨h.1, h.2.symm⟩
theorem cast1 (q : Nat) : ((q + 1 : Nat) : Int) = 1 + (q : Int) := by omega
theorem two0 (w0 : World) (o : Obj) : ∀ i, i < ([0, 0] : List Int).length → ((w0.alloc o).alloc (.cells #[.int .i64 0, .int .i64 0] 26)).cell? ⟨w0.heap.size + 1, i, none⟩ = some (.int .i64 (([0, 0] : List Int).getD i 0)) := by
  intro i hi
  have := cells_new (w0.alloc o) [.int .i64 0, .int .i64 0] 26
  rw [World.size_alloc] at this
  match i, hi with
  | 0, _ => exact this 0 _ rfl
  | 1, _ => exact this 1 _ rfl
theorem seven0 (w0 : World) (o : Obj) : ∀ i, i < ([0, 0, 0, 0, 0, 0, 0] : List Int).length → ((w0.alloc o).alloc (.cells #[.int .i64 0, .int .i64 0, .int .i64 0, .int .i64 0, .int .i64 0, .int .i64 0, .int .i64 0] 26)).cell? ⟨w0.heap.size + 1, i, none⟩ = some (.int .i64 (([0, 0, 0, 0, 0, 0, 0] : List Int).getD i 0)) := by
  intro i hi
  have := cells_new (w0.alloc o) [.int .i64 0, .int .i64 0, .int .i64 0, .int .i64 0, .int .i64 0, .int .i64 0, .int .i64 0] 26
  rw [World.size_alloc] at this
  match i, hi with
  | 0, _ => exact this 0 _ rfl
  | 1, _ => exact this 1 _ rfl
  | 2, _ => exact this 2 _ rfl
  | 3, _ => exact this 3 _ rfl
  | 4, _ => exact this 4 _ rfl
  | 5, _ => exact this 5 _ rfl
  | 6, _ => exact this 6 _ rfl
set_option maxRecDepth 100000 in
set_option maxHeartbeats 400000 in
theorem opens_is (w : World) : Calls Try.prog 45 #[] w fun e w' => e = .returned (.bool true) ∧ Below w.heap.size w w' := by
  go_enter Try.func45, Try.ntmps45
  go_wp2_with fail
  refine (new_is _).mono ?_
  rintro e w1 ⟨rfl, hb1, hs1, ht1⟩
  have HO := Lib.hid (open_is (p := 1) (id := 3) (may := 1) ht1 (by decide) (by decide) (by decide) (by decide) (by decide))
  have HB1 := Lib.hid hb1
  have HS1 := Lib.hid hs1
  clear hb1 hs1 ht1
  go_wp2_with fail
  refine HO.out.mono ?_
  rintro e w2 ⟨hk2, ⟨j, k, hj, -, hjm, hk, -, hkm, rfl, ht2⟩ | ⟨h, -, -⟩⟩
  · obtain rfl : j = 0 := by
      rcases Nat.eq_zero_or_pos j with h | h
      · exact h
      · exact absurd rfl (hjm 0 h)
    obtain rfl : k = 0 := by
      rcases Nat.eq_zero_or_pos k with h | h
      · exact h
      · exact absurd rfl (hkm 0 h)
    have HG := Lib.hid (get_is (p := 1) (j := 0) (k := 0) ht2 (by decide) (by decide) (by decide) (updN_same _ _ _))
    rw [updF_same] at HG
    have HB2 := Lib.hid (show Below w.heap.size w w2 from HB1.out.trans (hk2.below (Nat.le_refl _) (by rw [HS1.out]; omega)))
    clear hk2 hjm hkm ht2
    go_wp2_with fail
    refine HG.out.mono ?_
    rintro e w3 ⟨rfl, hb3⟩
    have HB3 := Lib.hid (HB2.out.trans (hb3.mono HB2.out.size))
    simp only [thing]
    clear hb3
    go_wp2_with fail
    refine (good_any _ _ [0, 0] _ (by simp) (two0 _ _)).mono ?_
    rintro e w4 ⟨rfl, rfl⟩
    rw [show ([(0 : Int), 0].all (· == 0)) = true from rfl]
    go_wp2
    go_ret
    exact ⟨rfl, (HB3.out.alloc HB3.out.size _).alloc (by have := HB3.out.size; simp; omega) _⟩
  · rcases h with h | h
    · exact absurd rfl (h 0 (by decide))
    · exact absurd rfl (h 0 (by decide))
section
variable {w : World} {b q : Nat} {fs : Nat → F} {fd : Nat → Nat}
theorem open_q {id : Int} (h : OTab w b fs fd) (hI : Inv fs fd) (hq : q < 16) (hid : 0 ≤ id) :
    Calls Try.prog 47 #[.pointer (some ⟨b, 0, none⟩), .int .i64 (1 + (q : Int)), .agg #[.int .i64 1, .int .i64 id, .int .i64 1, .bool false, .int .i64 0]] w fun e w' =>
    ∃ (j : Nat) (err : Int) (fs' : Nat → F) (fd' : Nat → Nat), e = .returned (.tuple #[.int .i64 j, .int .i64 err]) ∧ (err = 0 ∨ err = 6) ∧ Res b w w' fs fs' fd' 0 (if err = 0 then 1 else 0) := by
  rw [← cast1]; exact open_any h hI (by omega) (by omega) hid (by decide) (by decide)
theorem close_q {j : Nat} (h : OTab w b fs fd) (hI : Inv fs fd) (hq : q < 16) (hj : j < 8) : Calls Try.prog 52 #[.pointer (some ⟨b, 0, none⟩), .int .i64 (1 + (q : Int)), .int .i64 j] w fun e w' =>
    ∃ (f : F) (gone : Bool) (err : Int) (fs' : Nat → F) (fd' : Nat → Nat), e = .returned (.tuple #[thing f, .bool gone, .int .i64 err]) ∧ (err = 0 ∨ (err = 4 ∧ gone = false)) ∧ Res b w w' fs fs' fd' (if gone then 1 else 0) 0 := by
  rw [← cast1]
  refine (close_any h hI (p := q + 1) (by omega) (by omega) hj).mono ?_
  rintro e w' ⟨f, g, err, fs', fd', h1, h2, h3, -⟩
  exact ⟨f, g, err, fs', fd', h1, h2, h3⟩
theorem dup_q {j to : Nat} (h : OTab w b fs fd) (hI : Inv fs fd) (hq : q < 16) (hj : j < 8) (ht : to < 8) : Calls Try.prog 49 #[.pointer (some ⟨b, 0, none⟩), .int .i64 (1 + (q : Int)), .int .i64 j, .int .i64 to] w fun e w' =>
    ∃ (f : F) (gone : Bool) (err : Int) (fs' : Nat → F) (fd' : Nat → Nat), e = .returned (.tuple #[thing f, .bool gone, .int .i64 err]) ∧ (err = 0 ∨ (err = 4 ∧ gone = false)) ∧ Res b w w' fs fs' fd' (if gone then 1 else 0) 0 := by
  rw [← cast1]; exact dup_any h hI (by omega) (by omega) hj ht
theorem fork_q {c : Nat} (h : OTab w b fs fd) (hI : Inv fs fd) (hq : q < 16) (hc : c < 16) : Calls Try.prog 48 #[.pointer (some ⟨b, 0, none⟩), .int .i64 (1 + (q : Int)), .int .i64 (1 + (c : Int))] w fun e w' =>
    ∃ (err : Int) (fs' : Nat → F) (fd' : Nat → Nat), e = .returned (.int .i64 err) ∧ Res b w w' fs fs' fd' 0 0 := by
  rw [← cast1, ← cast1]; exact fork_any h hI (by omega) (by omega) (by omega) (by omega)
end
structure CI (w1 wr : World) (b N M : Nat) (fs : Nat → F) (fd : Nat → Nat) : Prop where
  K : KB b w1 wr
  T : OTab wr b fs fd
  I : Inv fs fd
  C : N = M + live fs 32
theorem CI.alloc {w1 wr : World} {b N M : Nat} {fs : Nat → F} {fd : Nat → Nat} (h : CI w1 wr b N M fs fd) (o : Obj) : CI w1 (wr.alloc o) b N M fs fd := ⟨h.K.alloc o, h.T.alloc o, h.I, h.C⟩
theorem CI.drewN {w1 wr : World} {b N M : Nat} {fs : Nat → F} {fd : Nat → Nat} (h : CI w1 wr b N M fs fd) (n : Nat) : CI w1 (wr.drewN n) b N M fs fd := ⟨h.K.trans (KB.of (below_drewN (Below.refl _ _) n)), h.T.drewN n, h.I, h.C⟩
theorem CI.res {w1 wr w3 : World} {b N M x y : Nat} {fs fs' : Nat → F} {fd fd' : Nat → Nat} (h : CI w1 wr b N M fs fd) (r : Res b wr w3 fs fs' fd' x y) : CI w1 w3 b (N + y) (M + x) fs' fd' :=
  ⟨h.K.trans r.K, r.T, r.I, by have := h.C; have := r.L; omega⟩
set_option maxRecDepth 100000 in
set_option maxHeartbeats 4000000 in
theorem opencounts_any {w : World} {v : Value} {len : Nat} {F' : Nat → Nat → Int} (h : TabIn w 3 v len F') : Calls Try.prog 14 #[v] w fun e w' => e = .returned (.bool true) ∧ Below w.heap.size w w' := by
  obtain ⟨a, cap, rfl, hl, hcap, h⟩ := h
  have hlen : len ≤ 9223372036854775807 := by unfold maxLen at hcap; omega
  have HD := Lib.hid h
  clear h hcap
  go_enter Try.func14, Try.ntmps14
  go_wp2_with fail
  refine (opens_is _).mono ?_
  rintro e w0 ⟨rfl, hb0⟩
  go_wp2_with fail
  refine (new_is _).mono ?_
  rintro e w1 ⟨rfl, hb1, hs1, ht1⟩
  have HB0 := Lib.hid hb0
  have HB1 := Lib.hid (hb0.trans (hb1.mono hb0.size))
  have hbw : w.heap.size ≤ w0.heap.size := hb0.size
  have HS1 := Lib.hid hs1
  have HT1 := Lib.hid ht1
  clear hb0 hb1 hs1 ht1
  go_wp2_with fail
  generalize w0.heap.size = b at *
  go_loopw [4, 5, 29] (fun nv mv iv wr => ∃ (k N M : Nat) (fs : Nat → F) (fd : Nat → Nat), k ≤ len ∧ nv = .int .i64 N ∧ mv = .int .i64 M ∧ iv = .int .i64 k ∧ Hid (CI w1 wr b N M fs fd) ∧ N ≤ k) (fun _ _ iv _ => len - (intOf iv).toNat)
  case atStart => exact ⟨0, 0, 0, _, _, by omega, rfl, rfl, rfl, Lib.hid ⟨KB.rfl' _ _, HT1.out, inv_new, by rw [live_zero (fun _ _ => rfl)]⟩, by omega⟩
  case round =>
    obtain ⟨k, N, M, fs, fd, hk, rfl, rfl, rfl, HC, hNk⟩ := hrel
    by_cases hlt : k < len
    · rcases HD.out with h0 | ⟨bd, off, rfl, hbd, hF⟩
      · omega
      have hbel : Below w.heap.size w wr := HB1.out.trans (HC.out.K.below hbw HB1.out.size)
      obtain ⟨d0, hd0⟩ : ∃ d, d = F' k 0 := ⟨_, rfl⟩
      obtain ⟨d1, hd1⟩ : ∃ d, d = F' k 1 := ⟨_, rfl⟩
      obtain ⟨d2, hd2⟩ : ∃ d, d = F' k 2 := ⟨_, rfl⟩
      have g0 := (hbel.cell (p := ⟨bd, off + k * 3, none⟩) hbd).trans (hF k hlt 0 (by decide)).1
      have g1 := (hbel.cell (p := ⟨bd, off + k * 3 + 1, none⟩) hbd).trans (hF k hlt 1 (by decide)).1
      have g2 := (hbel.cell (p := ⟨bd, off + k * 3 + 2, none⟩) hbd).trans (hF k hlt 2 (by decide)).1
      rw [← hd0] at g0
      rw [← hd1] at g1
      rw [← hd2] at g2
      have HNK := Lib.hid (show N + 1 ≤ k + 1 from by omega)
      have HKL := Lib.hid (show k + 1 ≤ len from hlt)
      have hN : (N : Int) < 9223372036854775807 := by omega
      have hMN : M ≤ N := by have := HC.out.C; omega
      have hM : (M : Int) < 9223372036854775807 := by omega
      obtain ⟨q, hq⟩ : ∃ q : Nat, d0 % 4 = q := ⟨(d0 % 4).toNat, by omega⟩
      obtain ⟨j, hj⟩ : ∃ q : Nat, d1 % 8 = q := ⟨(d1 % 8).toNat, by omega⟩
      obtain ⟨to, hto⟩ : ∃ q : Nat, d2 % 8 = q := ⟨(d2 % 8).toNat, by omega⟩
      obtain ⟨c, hc⟩ : ∃ q : Nat, d1 % 6 = q := ⟨(d1 % 6).toNat, by omega⟩
      obtain ⟨z, hz⟩ : ∃ p : Int, d2 % 5 = p := ⟨_, rfl⟩
      have hz5 : z = 0 ∨ z = 1 ∨ z = 2 ∨ z = 3 ∨ z = 4 := by omega
      have HQ := Lib.hid (And.intro hq (show q < 16 by omega))
      have HJ := Lib.hid (And.intro hj (show j < 8 by omega))
      have HTO := Lib.hid (And.intro hto (show to < 8 by omega))
      have HCC := Lib.hid (And.intro hc (show c < 16 by omega))
      have HZ := Lib.hid hz
      have hqi : (q : Int) < 4 := by omega
      have hci : (c : Int) < 6 := by omega
      clear hd0 hd1 hd2 hF hbel hq hj hto hc hz hMN
      go_wp2_with fail
      go_quiet (first | (go_at_call 18; refine Calls.quiet_of_same (within_q _ _ _ (by decide) (by decide))))
      have HC2 := Lib.hid (fun n => (HC.out.alloc (.cells #[.int .i64 d0, .int .i64 d1, .int .i64 d2] 96)).drewN n)
      rw [HQ.out.1, HJ.out.1, HTO.out.1]
      go_wp2_with fail
      refine (within_any _ 5 _ (by decide) (by decide)).mono ?_
      rintro e w2 ⟨rfl, rfl⟩
      rw [HZ.out]
      rcases hz5 with rfl | rfl | rfl | rfl | rfl
      · go_wp2_with fail
        refine (open_q (HC2.out _).T HC.out.I HQ.out.2 (by omega)).mono ?_
        rintro e w3 ⟨j3, err, fs3, fd3, rfl, herr, r⟩
        have HX := Lib.hid ((HC2.out _).res r)
        clear r
        rcases herr with rfl | rfl
        · go_wp2
          go_roundw
          case rel => exact ⟨k + 1, N + 1, M, fs3, fd3, HKL.out, by go_num, rfl, by go_num, Lib.hid (HX.out), by have := HNK.out; omega⟩
          case measure => have := HKL.out; simp [intOf]; omega
        · go_wp2
          go_roundw
          case rel => exact ⟨k + 1, N, M, fs3, fd3, HKL.out, rfl, rfl, by go_num, Lib.hid (HX.out), by have := HNK.out; omega⟩
          case measure => have := HKL.out; simp [intOf]; omega
      · go_wp2_with fail
        refine (open_q (HC2.out _).T HC.out.I HQ.out.2 (by omega)).mono ?_
        rintro e w3 ⟨j3, err, fs3, fd3, rfl, herr, r⟩
        have HX := Lib.hid ((HC2.out _).res r)
        clear r
        rcases herr with rfl | rfl
        · go_wp2
          go_roundw
          case rel => exact ⟨k + 1, N + 1, M, fs3, fd3, HKL.out, by go_num, rfl, by go_num, Lib.hid (HX.out), by have := HNK.out; omega⟩
          case measure => have := HKL.out; simp [intOf]; omega
        · go_wp2
          go_roundw
          case rel => exact ⟨k + 1, N, M, fs3, fd3, HKL.out, rfl, rfl, by go_num, Lib.hid (HX.out), by have := HNK.out; omega⟩
          case measure => have := HKL.out; simp [intOf]; omega
      · go_wp2_with fail
        refine (close_q (HC2.out _).T HC.out.I HQ.out.2 HJ.out.2).mono ?_
        rintro e w3 ⟨f, gone, err, fs3, fd3, rfl, herr, r⟩
        have HX := Lib.hid ((HC2.out _).res r)
        simp only [thing]
        clear r
        rcases herr with rfl | ⟨rfl, rfl⟩
        · cases gone
          · go_wp2
            go_roundw
            case rel => exact ⟨k + 1, N, M, fs3, fd3, HKL.out, rfl, rfl, by go_num, Lib.hid (HX.out.alloc _), by have := HNK.out; omega⟩
            case measure => have := HKL.out; simp [intOf]; omega
          · go_wp2
            go_roundw
            case rel => exact ⟨k + 1, N, M + 1, fs3, fd3, HKL.out, rfl, by go_num, by go_num, Lib.hid (HX.out.alloc _), by have := HNK.out; omega⟩
            case measure => have := HKL.out; simp [intOf]; omega
        · go_wp2
          go_roundw
          case rel => exact ⟨k + 1, N, M, fs3, fd3, HKL.out, rfl, rfl, by go_num, Lib.hid (HX.out.alloc _), by have := HNK.out; omega⟩
          case measure => have := HKL.out; simp [intOf]; omega
      · go_wp2_with fail
        refine (dup_q (HC2.out _).T HC.out.I HQ.out.2 HJ.out.2 HTO.out.2).mono ?_
        rintro e w3 ⟨f, gone, err, fs3, fd3, rfl, herr, r⟩
        have HX := Lib.hid ((HC2.out _).res r)
        simp only [thing]
        clear r
        rcases herr with rfl | ⟨rfl, rfl⟩
        · cases gone
          · go_wp2
            go_roundw
            case rel => exact ⟨k + 1, N, M, fs3, fd3, HKL.out, rfl, rfl, by go_num, Lib.hid (HX.out.alloc _), by have := HNK.out; omega⟩
            case measure => have := HKL.out; simp [intOf]; omega
          · go_wp2
            go_roundw
            case rel => exact ⟨k + 1, N, M + 1, fs3, fd3, HKL.out, rfl, by go_num, by go_num, Lib.hid (HX.out.alloc _), by have := HNK.out; omega⟩
            case measure => have := HKL.out; simp [intOf]; omega
        · go_wp2
          go_roundw
          case rel => exact ⟨k + 1, N, M, fs3, fd3, HKL.out, rfl, rfl, by go_num, Lib.hid (HX.out.alloc _), by have := HNK.out; omega⟩
          case measure => have := HKL.out; simp [intOf]; omega
      · go_wp2_with fail
        refine (within_any _ 6 _ (by decide) (by decide)).mono ?_
        rintro e w2 ⟨rfl, rfl⟩
        rw [HCC.out.1]
        go_wp2_with fail
        refine (fork_q (HC2.out _).T HC.out.I HQ.out.2 HCC.out.2).mono ?_
        rintro e w3 ⟨err, fs3, fd3, rfl, r⟩
        have HX := Lib.hid ((HC2.out _).res r)
        clear r
        go_wp2
        go_roundw
        case rel => exact ⟨k + 1, N, M, fs3, fd3, HKL.out, rfl, rfl, by go_num, Lib.hid (HX.out), by have := HNK.out; omega⟩
        case measure => have := HKL.out; simp [intOf]; omega
    · obtain rfl : k = len := by omega
      have HNL := Lib.hid (show N ≤ 9223372036854775807 by omega)
      clear HD
      go_wp2_with fail
      go_loopw [5, 19] (fun mv iv wr => ∃ (k M : Nat) (fs : Nat → F) (fd : Nat → Nat), 1 ≤ k ∧ k ≤ 17 ∧ mv = .int .i64 M ∧ iv = .int .i64 k ∧ Hid (CI w1 wr b N M fs fd) ∧ Hid (∀ i, i < k * 8 → fd i = 0)) (fun _ iv _ => 17 - (intOf iv).toNat)
      case atStart => exact ⟨1, M, fs, fd, by omega, by omega, rfl, rfl, HC, Lib.hid (fun i hi => HC.out.I.z i (by omega))⟩
      case round =>
        obtain ⟨p, M, fs, fd, hp1, hp17, rfl, rfl, HC, HZ⟩ := hrel
        by_cases hlt : p ≤ 16
        · have HD := Lib.hid (drop_is HC.out.T HC.out.I hp1 hlt)
          have hpi : (p : Int) ≤ 16 := by omega
          go_wp2_with fail
          refine HD.out.mono ?_
          rintro e w3 ⟨a3, m3, c3, fs3, fd3, rfl, r, z, y⟩
          have HX := Lib.hid (HC.out.res r)
          have HY := Lib.hid (show ∀ i, i < (p + 1) * 8 → fd3 i = 0 from fun i hi => by
            by_cases e : i < p * 8
            · exact y i (HZ.out i e)
            · have := z (i - p * 8) (by omega); rwa [show p * 8 + (i - p * 8) = i by omega] at this)
          have hmm : ((M + m3 : Nat) : Int) ≤ 9223372036854775807 := by have := HX.out.C; have := HNL.out; omega
          clear r z y
          go_wp2
          go_roundw
          case rel => exact ⟨p + 1, M + m3, fs3, fd3, by omega, by omega, by go_num, by go_num, HX, HY⟩
          case measure => simp [intOf]; omega
        · obtain rfl : p = 17 := by omega
          have hNM : (N : Int) = (M : Int) := by
            have h1 := HC.out.C
            rw [HC.out.I.dead (fun i hi => HZ.out i (by omega))] at h1
            omega
          have hN2 : ((N : Int) == (M : Int)) = true := by simp [hNM]
          have HW := Lib.hid (HB1.out.trans (HC.out.K.below hbw HB1.out.size))
          clear hNM
          go_wp2
          go_ret
          exact ⟨rfl, HW.out⟩
end Go.Proofs.Ytddfgdodpjmjfaa.OpenLaw
