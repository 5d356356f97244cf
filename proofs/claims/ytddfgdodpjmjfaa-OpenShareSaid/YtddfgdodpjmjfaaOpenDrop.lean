/- Contracts of the table of open things over its law; the walk of Drop. -/
import Derived.Test.YtddfgdodpjmjfaaOpenPlain
namespace Go.Proofs.Ytddfgdodpjmjfaa.OpenLaw
open Go.RowKit
set_option linter.unusedVariables false

/-- what a call made of the table: x files closed, y opened -/
structure Res (b : Nat) (w w' : World) (fs fs' : Nat → F) (fd' : Nat → Nat) (x y : Nat) : Prop where
  K : KB b w w'
  T : OTab w' b fs' fd'
  I : Inv fs' fd'
  L : live fs' 32 + x = live fs 32 + y
theorem Res.id {b : Nat} {w w' : World} {fs : Nat → F} {fd : Nat → Nat} (h : OTab w b fs fd) (hI : Inv fs fd) (hb : Below w.heap.size w w') : Res b w w' fs fs fd 0 0 := ⟨KB.of hb, h.keep hb, hI, rfl⟩
theorem close_any {w : World} {b p j : Nat} {fs : Nat → F} {fd : Nat → Nat} (h : OTab w b fs fd) (hI : Inv fs fd) (h1 : 1 ≤ p) (h2 : p ≤ 16) (hj : j < 8) : Calls Try.prog 52 #[.pointer (some ⟨b, 0, none⟩), .int .i64 p, .int .i64 j] w fun e w' =>
    ∃ (f : F) (gone : Bool) (err : Int) (fs' : Nat → F) (fd' : Nat → Nat), e = .returned (.tuple #[thing f, .bool gone, .int .i64 err]) ∧ (err = 0 ∨ (err = 4 ∧ gone = false)) ∧ Res b w w' fs fs' fd' (if gone then 1 else 0) 0 ∧ fd' (p * 8 + j) = 0 ∧ ∀ i, fd i = 0 → fd' i = 0 := by
  by_cases hz : fd (p * 8 + j) = 0
  · refine (close_none h h1 h2 hj hz).mono ?_
    rintro e w' ⟨rfl, hb⟩
    exact ⟨f0, false, 4, fs, fd, rfl, .inr ⟨rfl, rfl⟩, Res.id h hI hb, hz, fun _ x => x⟩
  · obtain ⟨k, hk⟩ : ∃ k, fd (p * 8 + j) = k + 1 := ⟨fd (p * 8 + j) - 1, by omega⟩
    have hk32 : k < 32 := by have := h.le (p * 8 + j); omega
    have hp := hI.pos hk32 (by omega) hk
    obtain ⟨I', L'⟩ := hI.close (by omega) hk hk32
    refine (close_is h h1 h2 hj hk hp (hI.nn k hk32).2).mono ?_
    rintro e w' ⟨rfl, hb, ht⟩
    refine ⟨fs k, _, 0, _, _, rfl, .inl rfl, ⟨hb, ht, I', ?_⟩, updN_same _ _ _, fun i x => by unfold updN; split; rfl; exact x⟩
    rw [← L']
    simp only [decide_eq_true_eq]
    rfl
theorem open_any {w : World} {b p : Nat} {fs : Nat → F} {fd : Nat → Nat} {id may : Int} (h : OTab w b fs fd) (hI : Inv fs fd) (h1 : 1 ≤ p) (h2 : p ≤ 16) (hid : 0 ≤ id) (hm : 0 ≤ may) (hm3 : may ≤ 3) :
    Calls Try.prog 47 #[.pointer (some ⟨b, 0, none⟩), .int .i64 p, .agg #[.int .i64 1, .int .i64 id, .int .i64 may, .bool false, .int .i64 0]] w fun e w' =>
    ∃ (j : Nat) (err : Int) (fs' : Nat → F) (fd' : Nat → Nat), e = .returned (.tuple #[.int .i64 j, .int .i64 err]) ∧ (err = 0 ∨ err = 6) ∧ Res b w w' fs fs' fd' 0 (if err = 0 then 1 else 0) := by
  refine (open_is h h1 h2 hid hm hm3).mono ?_
  rintro e w' ⟨hk, ⟨j, k, hj, hz, -, hk32, hn, -, rfl, ht⟩ | ⟨-, rfl, ht⟩⟩
  · obtain ⟨I', L'⟩ := hI.add (q := p * 8 + j) (by omega) (by omega) hz hk32 ⟨1, id, may, false, 0, 1⟩ (by rw [hn]; rfl)
    exact ⟨j, 0, _, _, rfl, .inl rfl, hk, ht, I', by rw [L', hn]; rfl⟩
  · exact ⟨0, 6, _, _, rfl, .inr rfl, hk, ht, hI, rfl⟩
theorem dup_any {w : World} {b p j to : Nat} {fs : Nat → F} {fd : Nat → Nat} (h : OTab w b fs fd) (hI : Inv fs fd) (h1 : 1 ≤ p) (h2 : p ≤ 16) (hj : j < 8) (ht : to < 8) : Calls Try.prog 49 #[.pointer (some ⟨b, 0, none⟩), .int .i64 p, .int .i64 j, .int .i64 to] w fun e w' =>
    ∃ (f : F) (gone : Bool) (err : Int) (fs' : Nat → F) (fd' : Nat → Nat), e = .returned (.tuple #[thing f, .bool gone, .int .i64 err]) ∧ (err = 0 ∨ (err = 4 ∧ gone = false)) ∧ Res b w w' fs fs' fd' (if gone then 1 else 0) 0 := by
  by_cases hz : fd (p * 8 + j) = 0
  · refine (dup_none (to := to) h h1 h2 hj hz).mono ?_
    rintro e w' ⟨rfl, hb⟩
    exact ⟨f0, false, 4, fs, fd, rfl, .inr ⟨rfl, rfl⟩, Res.id h hI hb⟩
  · obtain ⟨k, hk⟩ : ∃ k, fd (p * 8 + j) = k + 1 := ⟨fd (p * 8 + j) - 1, by omega⟩
    have hk32 : k < 32 := by have := h.le (p * 8 + j); omega
    by_cases hjt : j = to
    · subst hjt
      refine (dup_same h h1 h2 hj hk).mono ?_
      rintro e w' ⟨rfl, hb⟩
      exact ⟨f0, false, 0, fs, fd, rfl, .inl rfl, Res.id h hI hb⟩
    · by_cases hy : fd (p * 8 + to) = 0
      · have hp := hI.pos hk32 (by omega) hk
        obtain ⟨I', L'⟩ := hI.add (q := p * 8 + to) (by omega) (by omega) hy hk32 { fs k with n := (fs k).n + 1 } rfl
        refine (dup_free h h1 h2 hj ht hjt hk hy (hI.nn k hk32)).mono ?_
        rintro e w' ⟨rfl, hb, ht'⟩
        exact ⟨f0, false, 0, _, _, rfl, .inl rfl, hb, ht', I', by rw [L', if_neg (by omega)]; rfl⟩
      · obtain ⟨m, hm⟩ : ∃ m, fd (p * 8 + to) = m + 1 := ⟨fd (p * 8 + to) - 1, by omega⟩
        have hm32 : m < 32 := by have := h.le (p * 8 + to); omega
        have hpm := hI.pos hm32 (by omega) hm
        obtain ⟨I1, L1⟩ := hI.close (by omega) hm hm32
        have hk1 : updN fd (p * 8 + to) 0 (p * 8 + j) = k + 1 := by rw [updN_other _ _ (by omega)]; exact hk
        have hp1 := I1.pos hk32 (by omega) hk1
        obtain ⟨I', L'⟩ := I1.add (q := p * 8 + to) (by omega) (by omega) (updN_same _ _ _) hk32 { updF fs m { fs m with n := (fs m).n - 1 } k with n := (updF fs m { fs m with n := (fs m).n - 1 } k).n + 1 } rfl
        refine (dup_taken h h1 h2 hj ht hjt hk hm ⟨hpm, (hI.nn m hm32).2⟩ _ _ rfl rfl (I1.nn k hk32)).mono ?_
        rintro e w' ⟨⟨v, rfl⟩, hb, ht'⟩
        refine ⟨v, _, 0, _, _, rfl, .inl rfl, hb, ht', I', ?_⟩
        rw [L', if_neg (by omega), ← L1]
        simp only [decide_eq_true_eq]
        omega
theorem fork_any {w : World} {b p c : Nat} {fs : Nat → F} {fd : Nat → Nat} (h : OTab w b fs fd) (hI : Inv fs fd) (h1 : 1 ≤ p) (h2 : p ≤ 16) (h3 : 1 ≤ c) (h4 : c ≤ 16) : Calls Try.prog 48 #[.pointer (some ⟨b, 0, none⟩), .int .i64 p, .int .i64 c] w fun e w' =>
    ∃ (err : Int) (fs' : Nat → F) (fd' : Nat → Nat), e = .returned (.int .i64 err) ∧ Res b w w' fs fs' fd' 0 0 := by
  by_cases hb : ∀ i, i < 8 → fd (c * 8 + i) = 0
  · by_cases hpc : p = c
    · subst hpc
      refine (fork_same h h1 h2 hb).mono ?_
      rintro e w' ⟨rfl, rfl⟩
      exact ⟨0, fs, fd, rfl, Res.id h hI (Below.refl _ _)⟩
    · obtain ⟨I', L'⟩ := hI.fork h.le h1 h2 h3 h4 hpc hb 8 (Nat.le_refl _)
      refine (fork_is h h1 h2 h3 h4 hpc hb hI.nn).mono ?_
      rintro e w' ⟨rfl, hk, ht⟩
      exact ⟨0, _, _, rfl, hk, ht, I', by rw [L']⟩
  · refine (fork_busy h h1 h2 h3 h4 ?_).mono ?_
    · refine Classical.byContradiction fun hn => hb fun i hi => ?_
      exact Classical.byContradiction fun hx => hn ⟨i, hi, hx⟩
    · rintro e w' ⟨rfl, rfl⟩
      exact ⟨8, fs, fd, rfl, Res.id h hI (Below.refl _ _)⟩
theorem KB.grown {b : Nat} {u w w' : World} {row : Option Nat} (h : KB b u w) (hg : w.grownBy w' row) (hr : ∀ k, row = some k → u.heap.size ≤ k) : KB b u w' :=
  ⟨hg.os.trans h.os, hg.tape.trans h.tape, hg.output.trans h.output, Nat.le_trans h.size hg.size, fun i hi hn => (hg.block i (Nat.lt_of_lt_of_le hi h.size) (fun e => by have := hr i e.symm; omega)).trans (h.block i hi hn)⟩
theorem OTab.grown {w w' : World} {b : Nat} {fs : Nat → F} {fd : Nat → Nat} {row : Option Nat} (h : OTab w b fs fd) (hg : w.grownBy w' row) (hr : some b ≠ row) : OTab w' b fs fd := by
  have hb : w'.heap[b]? = w.heap[b]? := hg.block b h.lt hr
  have e : ∀ x, w'.cell? ⟨b, x, none⟩ = w.cell? ⟨b, x, none⟩ := fun x => World.cell?_of_block (w := w) (a := ⟨b, x, none⟩) hb
  exact ⟨Nat.lt_of_lt_of_le h.lt hg.size, fun i => (World.frozen?_of_block (w := w) (a := ⟨b, i, none⟩) hb).trans (h.fz i), h.le, fun k hk => by rw [e]; exact h.c0 k hk, fun k hk => by rw [e]; exact h.c1 k hk, fun k hk => by rw [e]; exact h.c2 k hk, fun k hk => by rw [e]; exact h.c3 k hk, fun k hk => by rw [e]; exact h.c4 k hk, fun k hk => by rw [e]; exact h.c5 k hk, fun p j hp hj => by rw [e]; exact h.d p j hp hj⟩
theorem owns_kb {w w1 : World} {b base e size : Nat} {v : Value} {n : Nat} {xs : List Value} (hown : w.ownsRow base e size v n xs) (hb : b < base) (hk : KB b w w1) : w1.ownsRow base e size v n xs := by
  refine hown.kept hk ?_
  cases hv : v.ownBlock with
  | none => exact .inl rfl
  | some g => exact .inr (fun e => by have := (hown.lt g hv).1; have := Option.some.inj e; omega)
theorem five {a0 a1 a2 a4 : Int} {a3 : Bool} : ∀ u ∈ [Value.int .i64 a0, .int .i64 a1, .int .i64 a2, .bool a3, .int .i64 a4], u.oneCell' = true := by
  intro u hu
  simp at hu
  rcases hu with rfl | rfl | rfl | rfl | rfl <;> rfl
def DropPost (b p : Nat) (fs : Nat → F) (fd : Nat → Nat) (w : World) (e : Ending) (w' : World) : Prop :=
  ∃ (a : Option Addr) (m c : Nat) (fs' : Nat → F) (fd' : Nat → Nat), e = .returned (.tuple #[.slice a m c, .int .i64 0]) ∧ Res b w w' fs fs' fd' m 0 ∧ (∀ i, i < 8 → fd' (p * 8 + i) = 0) ∧ ∀ i, fd i = 0 → fd' i = 0
structure DR (w : World) (b p k m : Nat) (fs : Nat → F) (fd : Nat → Nat) (lv : Value) (wr : World) (fs' : Nat → F) (fd' : Nat → Nat) (xs : List Value) : Prop where
  R : Res b w wr fs fs' fd' m 0
  Z : ∀ i, i < k → fd' (p * 8 + i) = 0
  Y : ∀ i, fd i = 0 → fd' i = 0
  O : wr.ownsRow w.heap.size 86 5 lv m xs
theorem DR.step {w wr w3 : World} {b p k m x : Nat} {fs fs' fs2 : Nat → F} {fd fd' fd2 : Nat → Nat} {lv : Value} {xs : List Value} (h : DR w b p k m fs fd lv wr fs' fd' xs) (hb : b < w.heap.size) (r : Res b wr w3 fs' fs2 fd2 x 0) (z : fd2 (p * 8 + k) = 0) (y : ∀ i, fd' i = 0 → fd2 i = 0) :
    Res b w w3 fs fs2 fd2 (m + x) 0 ∧ (∀ i, i < k + 1 → fd2 (p * 8 + i) = 0) ∧ (∀ i, fd i = 0 → fd2 i = 0) ∧ w3.ownsRow w.heap.size 86 5 lv m xs := by
  refine ⟨⟨h.R.K.trans r.K, r.T, r.I, ?_⟩, fun i hi => ?_, fun i hi => y i (h.Y i hi), owns_kb h.O hb r.K⟩
  · have := h.R.L; have := r.L; omega
  · rcases Nat.lt_succ_iff_lt_or_eq.mp hi with q | q
    · exact y _ (h.Z i q)
    · rw [q]; exact z
set_option maxRecDepth 100000 in
set_option maxHeartbeats 400000 in
theorem drop_is {w : World} {b p : Nat} {fs : Nat → F} {fd : Nat → Nat} (h : OTab w b fs fd) (hI : Inv fs fd) (h1 : 1 ≤ p) (h2 : p ≤ 16) : Calls Try.prog 53 #[.pointer (some ⟨b, 0, none⟩), .int .i64 p] w (DropPost b p fs fd w) := by
  have HO := Lib.hid (owner_is h1 h2 w)
  have HC := Lib.hid (fun (w0 : World) (fs0 : Nat → F) (fd0 : Nat → Nat) (r : Res b w w0 fs fs0 fd0 (live fs 32 - live fs0 32) 0) (j : Nat) (hj : j < 8) => close_any r.T r.I h1 h2 hj)
  have HB := Lib.hid h.lt
  have HCL := Lib.hid (fun (w0 : World) (fs0 : Nat → F) (fd0 : Nat → Nat) (t : OTab w0 b fs0 fd0) (i : Inv fs0 fd0) (j : Nat) (hj : j < 8) => close_any t i h1 h2 hj)
  have HS : Hid (DR w b p 0 0 fs fd (.slice none 0 0) w fs fd []) := Lib.hid ⟨Res.id h hI (Below.refl _ _), fun i hi => absurd hi (by omega), fun _ x => x, World.ownsRow_nil _ _ _ _⟩
  obtain ⟨i0, hi, hz0, hz1, hz2⟩ : ∃ i : TypeInfo, Try.prog.info? 86 = some i ∧ i.zero = some (.agg #[.int .i64 0, .int .i64 0, .int .i64 0, .bool false, .int .i64 0]) ∧ i.size = 5 ∧ i.bytes = 40 := ⟨_, rfl, by kernel_rfl, by kernel_rfl, by kernel_rfl⟩
  have HI := Lib.hid hi
  clear h hI h1 h2 HC hi
  go_enter Try.func53, Try.ntmps53
  go_wp2_with fail
  refine HO.out.mono ?_
  rintro e w1 ⟨rfl, rfl⟩
  go_wp2_with fail
  go_loopw [6, 14] (fun lv iv wr => ∃ (k m : Nat) (fs' : Nat → F) (fd' : Nat → Nat) (xs : List Value), k ≤ 8 ∧ m ≤ k ∧ iv = .int .i64 k ∧ Hid (DR w b p k m fs fd lv wr fs' fd' xs)) (fun _ iv _ => 8 - (intOf iv).toNat)
  case atStart => exact ⟨0, 0, fs, fd, [], by omega, by omega, rfl, HS⟩
  case round =>
    obtain ⟨k, m, fs', fd', xs, hk, hm, rfl, HD⟩ := hrel
    by_cases hlt : k < 8
    · have hki : (k : Int) < 8 := by omega
      have HLT := Lib.hid hlt
      clear hlt
      go_wp2_with fail
      refine (HCL.out _ _ _ HD.out.R.T HD.out.R.I k HLT.out).mono ?_
      rintro e w3 ⟨f, gone, err, fs2, fd2, rfl, herr, r, z, y⟩
      have HX := Lib.hid (HD.out.step HB.out r z y)
      clear r z y
      obtain ⟨kd, id', may, more, pos, nn⟩ := f
      have hW3 := Lib.hid (show w.heap.size ≤ w3.heap.size from HX.out.1.K.size)
      simp only [thing]
      rcases herr with rfl | ⟨rfl, rfl⟩
      · cases gone
        · go_wp2
          go_roundw
          case rel => exact ⟨k + 1, m, fs2, fd2, xs, by omega, by omega, by go_num, Lib.hid ⟨⟨HX.out.1.K.alloc _, HX.out.1.T.alloc _, HX.out.1.I, HX.out.1.L⟩, HX.out.2.1, HX.out.2.2.1, HX.out.2.2.2.alloc _⟩⟩
          case measure => simp [intOf]; omega
        · have hcells : ∀ j u, ([.int .i64 kd, .int .i64 id', .int .i64 may, .bool more, .int .i64 pos] : List Value)[j]? = some u → ((w3.alloc (.cells #[.int .i64 kd, .int .i64 id', .int .i64 may, .bool more, .int .i64 pos] 86)).alloc (.cells #[.int .i64 kd, .int .i64 id', .int .i64 may, .bool more, .int .i64 pos] 86)).cell? ((⟨w3.heap.size + 1, 0, none⟩ : Addr).add j) = some u := by
            have := cells_new (w3.alloc (.cells #[.int .i64 kd, .int .i64 id', .int .i64 may, .bool more, .int .i64 pos] 86)) [.int .i64 kd, .int .i64 id', .int .i64 may, .bool more, .int .i64 pos] 86
            rw [World.size_alloc] at this
            exact this
          have hown := (HX.out.2.2.2.alloc (.cells #[.int .i64 kd, .int .i64 id', .int .i64 may, .bool more, .int .i64 pos] 86)).alloc (.cells #[.int .i64 kd, .int .i64 id', .int .i64 may, .bool more, .int .i64 pos] 86)
          have hi0 := HI.out
          have HCE := Lib.hid hcells
          have HOW := Lib.hid hown
          have HI0 := Lib.hid hi0
          clear hcells hown hi0
          go_wp2_with (at_builtin; go_loud (refine wpList_append_fresh _ rfl (.tmp 30) (.tmp 32) 97 rfl w.heap.size 86 i0 (.agg #[.int .i64 0, .int .i64 0, .int .i64 0, .bool false, .int .i64 0]) 5 40 Try.underlying97 HI0.out hz0 hz1 hz2 rfl (by decide) _ _ _ rfl HOW.out ⟨_, 0, none⟩ 1 1 [.int .i64 kd, .int .i64 id', .int .i64 may, .bool more, .int .i64 pos] rfl rfl HCE.out five (by unfold maxLen; omega) (by omega) (by have := hW3.out; simp; omega) ?_))
          intro v7 w7 own7 grow7 fresh7
          have HF7 := Lib.hid (show DR w b p (k + 1) (m + 1) fs fd v7 w7 fs2 fd2 _ from ⟨⟨((HX.out.1.K.alloc _).alloc _).grown grow7 (fun g hg => (HOW.out.lt g hg).1), ((HX.out.1.T.alloc _).alloc _).grown grow7 (fun e => by have := (HOW.out.lt b e.symm).1; have := HB.out; omega), HX.out.1.I, HX.out.1.L⟩, HX.out.2.1, HX.out.2.2.1, own7⟩)
          clear own7 grow7 fresh7
          go_wp2
          go_roundw
          case rel => exact ⟨k + 1, m + 1, fs2, fd2, _, by omega, by omega, by go_num, HF7⟩
          case measure => simp [intOf]; omega
      · go_wp2
        go_roundw
        case rel => exact ⟨k + 1, m, fs2, fd2, xs, by omega, by omega, by go_num, Lib.hid ⟨⟨HX.out.1.K.alloc _, HX.out.1.T.alloc _, HX.out.1.I, HX.out.1.L⟩, HX.out.2.1, HX.out.2.2.1, HX.out.2.2.2.alloc _⟩⟩
        case measure => simp [intOf]; omega
    · obtain rfl : k = 8 := by omega
      have ho := HD.out.O
      obtain ⟨a, c, rfl⟩ : ∃ a c, u6 = .slice a m c := by
        rcases ho.2 with ⟨h, h0⟩ | ⟨g, cap, cur, h, _⟩
        · exact ⟨none, 0, by rw [h, h0]⟩
        · exact ⟨_, cap, h⟩
      clear ho
      go_wp2
      go_ret2
      exact ⟨a, m, c, fs', fd', rfl, HD.out.R, HD.out.Z, HD.out.Y⟩
end Go.Proofs.Ytddfgdodpjmjfaa.OpenLaw
