/- The walks of package fs: there, directory, find, place, free. The walks of package fs: free, enter, Look, Stat, Hold. The walks of package fs: Stat, Hold, enter. -/
import Derived.Test.YtlfemcbfclallaaGreatDoorFsK
import Derived.Test.YtlfemcbfclallaaGreatDoorDirI
namespace Go.Proofs.YtlfemcbfclallaaGreatDoor
open Go.RowKit Go.Maps
set_option linter.unusedVariables false
set_option linter.unusedSimpArgs false
section
variable {w : World} {c : FC} {x : FM}
theorem FSt.kind (h : FSt w c x) {i : Nat} (hi : i < 32) : w.cell? ⟨x.N, i * 8, none⟩ = some (.int .i64 (x.nd i).k) := by
  obtain ⟨C, hC⟩ := h.nb
  have := hC.cell hi (j := 0) (by decide)
  exact this
set_option maxRecDepth 100000 in
set_option maxHeartbeats 800000 in
theorem thereF_is (h : FSt w c x) {i : Nat} (hi : i < 32) {n : Int} (hn : n = i + 1) : Calls Tryz.prog 211 #[.pointer (some ⟨c.F, 0, none⟩), .int .i64 n] w fun e w' => e = .returned (.bool (!decide ((x.nd i).k = 0))) ∧ w = w' := by
  have c4 := h.c4
  have k0 := h.kind hi
  have hcm : (x.cap : Int) ≤ 9223372036854775807 := by have := h.cp.2; unfold maxLen at this; omega
  have y1 : IntKind.i64.wrap (n - 1) = i := by rw [IntWalk.i64_in _ (by omega)]; omega
  have i1 : (1 : Int) ≤ n := by omega
  have i2 : n ≤ 32 := by omega
  have i3 : (i : Int) < 32 := by omega
  have i0 : (0 : Int) ≤ i := by omega
  generalize (x.nd i).k = k at *
  clear h hn
  by_cases hk : k = 0
  all_goals
    go_enter Tryz.func211, Tryz.ntmps211
    go_wp2_with fail
    go_ret
    exact ⟨by simp [hk], rfl⟩
set_option maxRecDepth 100000 in
set_option maxHeartbeats 800000 in
theorem dirF_is (h : FSt w c x) {i : Nat} (hi : i < 32) {n : Int} (hn : n = i + 1) (hk : (x.nd i).k = 2) : Calls Tryz.prog 204 #[.pointer (some ⟨c.F, 0, none⟩), .int .i64 n] w fun e w' => e = .returned (.int .i64 0) ∧ w = w' := by
  have HT := Lib.hid (thereF_is h hi hn)
  rw [hk] at HT
  have HT : Hid (Calls Tryz.prog 211 #[.pointer (some ⟨c.F, 0, none⟩), .int .i64 n] w fun e w' => e = .returned (.bool true) ∧ w = w') := HT
  have c4 := h.c4
  have k0 := h.kind hi
  rw [hk] at k0
  have hcm : (x.cap : Int) ≤ 9223372036854775807 := by have := h.cp.2; unfold maxLen at this; omega
  have y1 : IntKind.i64.wrap (n - 1) = i := by rw [IntWalk.i64_in _ (by omega)]; omega
  have i3 : (i : Int) < 32 := by omega
  have i0 : (0 : Int) ≤ i := by omega
  clear h hn hk
  go_enter Tryz.func204, Tryz.ntmps204
  go_wp2_with (go_at_call 211; (with_reducible refine HT.out.mono ?_); rintro e1 w1 ⟨rfl, rfl⟩)
  go_ret
  exact ⟨rfl, rfl⟩
theorem At.form16 {w : World} {v : Value} {l : List Int} (h : At (Value.int .u8) 0 w v l) (hl : l.length = 16) : ∃ b o cap, v = .slice (some ⟨b, o, none⟩) 16 cap := by
  obtain ⟨a, cap, rfl, h1, h2, h3⟩ := h
  rcases h3 with h3 | ⟨b, o, rfl, _⟩
  · rw [h3] at hl; cases hl
  · exact ⟨b, o, cap, by rw [hl]⟩
set_option maxRecDepth 100000 in
set_option maxHeartbeats 800000 in
theorem find0F_is (h : FSt w c x) {i : Nat} (hi : i < 32) {n : Int} (hn : n = i + 1) (hk : (x.nd i).k = 2) (hp : (x.nd i).ps = []) (hs : (x.nd i).sz = 0) : Calls Tryz.prog 125 #[.pointer (some ⟨c.F, 0, none⟩), .int .i64 n, .string ⟨#[102]⟩] w fun e w' => e = .returned (.tuple #[.int .i64 0, .int .i64 4]) ∧ Below w.heap.size w w' := by
  have HN := Lib.hid (name_is w)
  have HD := Lib.hid (dirF_is h hi hn hk)
  have HB := Lib.hid (begin_is h)
  have HX := Lib.hid (And.intro hp (And.intro hs hn))
  clear h hk hp hs hn
  go_enter Tryz.func125, Tryz.ntmps125
  go_wp2_with (first | (go_at_call 203; (with_reducible refine HN.out.mono ?_); rintro e1 w1 ⟨rfl, rfl⟩) | (go_at_call 204; (with_reducible refine HD.out.mono ?_); rintro e1 w1 ⟨rfl, rfl⟩) | (go_at_call 55; (with_reducible refine HB.out.mono ?_); rintro e2 w2 ⟨t, g, cap, db, pb, rfl, hT⟩; have HE := Lib.hid (entries0_is hT hi HX.out.1 HX.out.2.1 HX.out.2.2); have HB2 := Lib.hid hT.bl; clear hT) | (go_at_call 206; (with_reducible refine HE.out.mono ?_); rintro e3 w3 ⟨rfl, hb3⟩; have HF := Lib.hid (find0_is w3 ⟨#[102]⟩); have HB3 := Lib.hid (HB2.out.trans (hb3.mono HB2.out.size)); clear hb3) | (go_at_call 205; (with_reducible refine HF.out.mono ?_); rintro e4 w4 ⟨rfl, hb4⟩; have HB4 := Lib.hid (HB3.out.trans (hb4.mono HB3.out.size)); clear hb4))
  go_ret2
  exact ⟨rfl, HB4.out⟩
set_option maxRecDepth 100000 in
set_option maxHeartbeats 800000 in
theorem find1F_is (h : FSt w c x) {i : Nat} (hi : i < 32) {n : Int} (hn : n = i + 1) (hk : (x.nd i).k = 2) {p : Nat} (hp : (x.nd i).ps = [(p : Int)]) (hp0 : p ≠ 0) (hp1 : p < 256) (hs : (x.nd i).sz = 16) (hf : (fsec x p).take 16 = entL) : Calls Tryz.prog 125 #[.pointer (some ⟨c.F, 0, none⟩), .int .i64 n, .string ⟨#[102]⟩] w fun e w' => e = .returned (.tuple #[.int .i64 2, .int .i64 0]) ∧ Below w.heap.size w w' := by
  have HN := Lib.hid (name_is w)
  have HD := Lib.hid (dirF_is h hi hn hk)
  have HB := Lib.hid (begin_is h)
  have HX := Lib.hid (And.intro hp (And.intro hp0 (And.intro hp1 (And.intro hs (And.intro hn hf)))))
  clear h hk hp hs hn hp0 hp1 hf
  go_enter Tryz.func125, Tryz.ntmps125
  go_wp2_with (first | (go_at_call 203; (with_reducible refine HN.out.mono ?_); rintro e1 w1 ⟨rfl, rfl⟩) | (go_at_call 204; (with_reducible refine HD.out.mono ?_); rintro e1 w1 ⟨rfl, rfl⟩) | (go_at_call 55; (with_reducible refine HB.out.mono ?_); rintro e2 w2 ⟨t, g, cap, db, pb, rfl, hT⟩; have HE := Lib.hid (entries1_is (L := 16) hT hi HX.out.1 HX.out.2.1 HX.out.2.2.1 HX.out.2.2.2.1 (by decide) HX.out.2.2.2.2.1); have HB2 := Lib.hid hT.bl; clear hT) | (go_at_call 206; (with_reducible refine HE.out.mono ?_); rintro e3 w3 ⟨v3, rfl, ha3, hf3, hb3⟩; have ha3 : At (Value.int .u8) 0 w3 v3 entL := (by have e : tsec x (tm0 x g cap db pb) p = fsec x p := rfl; rw [e, HX.out.2.2.2.2.2] at ha3; exact ha3); obtain ⟨b3, o3, c3, rfl⟩ := ha3.form16 rfl; have HF := Lib.hid (find1_is ha3); have HB3 := Lib.hid (HB2.out.trans (hb3.mono HB2.out.size)); clear hb3 ha3 hf3) | (go_at_call 205; (with_reducible refine HF.out.mono ?_); rintro e4 w4 ⟨rfl, hb4⟩; have HB4 := Lib.hid (HB3.out.trans (hb4.mono HB3.out.size)); clear hb4))
  go_ret2
  exact ⟨rfl, HB4.out⟩
set_option maxRecDepth 100000 in
set_option maxHeartbeats 800000 in
theorem place0F_is (h : FSt w c x) {i : Nat} (hi : i < 32) {n : Int} (hn : n = i + 1) (hk : (x.nd i).k = 2) (hp : (x.nd i).ps = []) (hs : (x.nd i).sz = 0) (hl : (x.nd i).l = 1) : Calls Tryz.prog 207 #[.pointer (some ⟨c.F, 0, none⟩), .int .i64 n, .string ⟨#[102]⟩] w fun e w' => e = .returned (.int .i64 0) ∧ Below w.heap.size w w' := by
  have HF := Lib.hid (find0F_is h hi hn hk hp hs)
  have HH := Lib.hid h
  have HX := Lib.hid (And.intro hi (And.intro hn (And.intro hk hl)))
  have hcm : (x.cap : Int) ≤ 9223372036854775807 := by have := h.cp.2; unfold maxLen at this; omega
  have y1 : IntKind.i64.wrap (n - 1) = i := by rw [IntWalk.i64_in _ (by omega)]; omega
  have i3 : (i : Int) < 32 := by omega
  have i0 : (0 : Int) ≤ i := by omega
  clear h hk hp hs hn hl
  go_enter Tryz.func207, Tryz.ntmps207
  go_upto_region 2 with (go_at_call 125; (with_reducible refine HF.out.mono ?_); rintro e1 w1 ⟨rfl, hb1⟩)
  have HH1 := Lib.hid (HH.out.keep hb1)
  have HB1 := Lib.hid hb1
  have HT : Hid (Calls Tryz.prog 211 #[.pointer (some ⟨c.F, 0, none⟩), .int .i64 n] w1 fun e w' => e = .returned (.bool true) ∧ w1 = w') := Lib.hid (by have := thereF_is HH1.out HX.out.1 HX.out.2.1; rw [HX.out.2.2.1] at this; exact this)
  have c4 := HH1.out.c4
  obtain ⟨C, hC⟩ := HH1.out.nb
  have k5 : w1.cell? ⟨x.N, i * 8 + 5, none⟩ = some (.int .i64 1) := by rw [hC.cell HX.out.1 (j := 5) (by decide), ← HX.out.2.2.2]; rfl
  clear hb1 hC
  go_wp2_with (go_at_call 211; (with_reducible refine HT.out.mono ?_); rintro e1 w1 ⟨rfl, rfl⟩)
  go_ret
  exact ⟨rfl, HB1.out⟩
end
end Go.Proofs.YtlfemcbfclallaaGreatDoor
namespace Go.Proofs.YtlfemcbfclallaaGreatDoor
open Go.RowKit Go.Maps
set_option linter.unusedVariables false
set_option linter.unusedSimpArgs false
section
variable {w : World} {c : FC} {x : FM}
attribute [local go_sem ↓] ld_ino st_ino2
set_option maxRecDepth 100000 in
set_option maxHeartbeats 800000 in
theorem free1_is (h : FSt w c x) (h0 : (x.nd 0).k = 2) (h1 : (x.nd 1).k = 0) : Calls Tryz.prog 208 #[.pointer (some ⟨c.F, 0, none⟩)] w fun e w' => e = .returned (.tuple #[.int .i64 2, .int .i64 0]) ∧ Below w.heap.size w w' := by
  have c4 := h.c4
  obtain ⟨C, hC⟩ := h.nb
  have hcm : (x.cap : Int) ≤ 9223372036854775807 := by have := h.cp.2; unfold maxLen at this; omega
  have l0 : (ldR 120 (.pointer (some ⟨x.N, 0, none⟩))).run Tryz.prog w = .ok (.agg (ndA (x.nd 0))) w := hC.ld (i := 0) (by decide)
  have hal := Go.Joins.below_alloc1 w (.cells (ndA (x.nd 0)) 120)
  have l1 : (ldR 120 (.pointer (some ⟨x.N, 8, none⟩))).run Tryz.prog (w.alloc (.cells (ndA (x.nd 0)) 120)) = .ok (.agg (ndA (x.nd 1))) (w.alloc (.cells (ndA (x.nd 0)) 120)) := (hC.keep hal).ld (i := 1) (by decide)
  have s0 := st0_new w (T := 120) (c := #[.int .i64 0, .int .i64 0, .int .i64 0, .int .i64 0, .int .i64 0, .int .i64 0, .int .i64 0, .slice none 0 0]) (cs := ndA (x.nd 0)) rfl (by rw [ndA_size]; kernel_rfl) (ndA_one _ (ip_one (h.ps 0 (by decide)).1))
  have s1 := st0_new (w.alloc (.cells (ndA (x.nd 0)) 120)) (T := 120) (c := #[.int .i64 0, .int .i64 0, .int .i64 0, .int .i64 0, .int .i64 0, .int .i64 0, .int .i64 0, .slice none 0 0]) (cs := ndA (x.nd 1)) rfl (by rw [ndA_size]; kernel_rfl) (ndA_one _ (ip_one (h.ps 1 (by decide)).1))
  have q0 : (w.alloc (.cells (ndA (x.nd 0)) 120)).cell? ⟨w.heap.size, 0, none⟩ = some (.int .i64 2) := by rw [(row_new w _ _).cell, ← h0]; rfl
  have e1 : (w.alloc (.cells (ndA (x.nd 0)) 120)).heap.size = w.heap.size + 1 := by simp
  have q1 : ((w.alloc (.cells (ndA (x.nd 0)) 120)).alloc (.cells (ndA (x.nd 1)) 120)).cell? ⟨w.heap.size + 1, 0, none⟩ = some (.int .i64 0) := by
    have := (row_new (w.alloc (.cells (ndA (x.nd 0)) 120)) 120 (ndA (x.nd 1))).cell 0
    rw [e1] at this
    rw [this, ← h1]
    rfl
  rw [e1] at s1
  have c4' := (h.keep hal).c4
  have HB : Hid (Below w.heap.size w ((w.alloc (.cells (ndA (x.nd 0)) 120)).alloc (.cells (ndA (x.nd 1)) 120))) := Lib.hid (hal.alloc hal.size _)
  clear h hC hal h0 h1 e1
  generalize ndA (x.nd 0) = A0 at *
  generalize ndA (x.nd 1) = A1 at *
  go_enter Tryz.func208, Tryz.ntmps208
  go_wp2_with fail
  refine wp_loop_rounds 2 ?_
  rw [rounds_succ]
  go_wp2_with fail
  rw [rounds_succ]
  go_wp2_with fail
  go_ret2
  exact ⟨rfl, HB.out⟩
set_option maxRecDepth 100000 in
set_option maxHeartbeats 400000 in
theorem look0_is (h : FSt w c x) {i : Nat} (hi : i < 32) {n : Int} (hn : n = i + 1) (hk : (x.nd i).k = 2) (hp : (x.nd i).ps = []) (hs : (x.nd i).sz = 0) : Calls Tryz.prog 59 #[.pointer (some ⟨c.F, 0, none⟩), .int .i64 n, .string ⟨#[102]⟩] w fun e w' => e = .returned (.tuple #[.int .i64 0, .int .i64 4]) ∧ Below w.heap.size w w' := by
  have HF := Lib.hid (find0F_is h hi hn hk hp hs)
  clear h hn hk hp hs
  go_enter Tryz.func59, Tryz.ntmps59
  go_wp2_with (go_at_call 125; (with_reducible refine HF.out.mono ?_); rintro e1 w1 ⟨rfl, hb1⟩)
  go_ret2
  exact ⟨rfl, hb1⟩
def stA (n : Nd) : Array Value := #[.int .i64 n.k, .int .i64 n.m, .int .i64 n.u, .int .i64 n.g, .int .i64 n.sz, .int .i64 n.l]
theorem ld_sta (v : Value) : Instr.loadAt 32 v = ldR 32 v := rfl
theorem st_sta (p v : Value) : Instr.storeAt 32 p v = stR 32 p v := rfl
attribute [local go_sem ↓] st_sta
set_option maxRecDepth 100000 in
set_option maxHeartbeats 800000 in
theorem istat_is (w : World) (n : Nd) : Calls Tryz.prog 230 #[.agg (ndA n)] w fun e w' => e = .returned (.agg (stA n)) ∧ Below w.heap.size w w' := by
  have hr := row_new w 120 (ndA n)
  have hrS : Row ((w.alloc (.cells (ndA n) 120)).alloc (.cells #[.int .i64 0, .int .i64 0, .int .i64 0, .int .i64 0, .int .i64 0, .int .i64 0] 32)) (w.heap.size + 1) 32 #[.int .i64 0, .int .i64 0, .int .i64 0, .int .i64 0, .int .i64 0, .int .i64 0] := by
    have := row_new (w.alloc (.cells (ndA n) 120)) 32 #[.int .i64 0, .int .i64 0, .int .i64 0, .int .i64 0, .int .i64 0, .int .i64 0]
    simpa using this
  have HS : Hid (Below w.heap.size w ((w.alloc (.cells (ndA n) 120)).alloc (.cells #[.int .i64 0, .int .i64 0, .int .i64 0, .int .i64 0, .int .i64 0, .int .i64 0] 32))) := Lib.hid (((Below.refl _ _).alloc (Nat.le_refl _) _).alloc (by simp) _)
  have hr2 := hr.alloc (.cells #[.int .i64 0, .int .i64 0, .int .i64 0, .int .i64 0, .int .i64 0, .int .i64 0] 32)
  have c0 : ((w.alloc (.cells (ndA n) 120)).alloc (.cells #[.int .i64 0, .int .i64 0, .int .i64 0, .int .i64 0, .int .i64 0, .int .i64 0] 32)).cell? ⟨w.heap.size, 0, none⟩ = some (.int .i64 n.k) := hr2.cell 0
  have c1 : ((w.alloc (.cells (ndA n) 120)).alloc (.cells #[.int .i64 0, .int .i64 0, .int .i64 0, .int .i64 0, .int .i64 0, .int .i64 0] 32)).cell? ⟨w.heap.size, 1, none⟩ = some (.int .i64 n.m) := hr2.cell 1
  have c2 : ((w.alloc (.cells (ndA n) 120)).alloc (.cells #[.int .i64 0, .int .i64 0, .int .i64 0, .int .i64 0, .int .i64 0, .int .i64 0] 32)).cell? ⟨w.heap.size, 2, none⟩ = some (.int .i64 n.u) := hr2.cell 2
  have c3 : ((w.alloc (.cells (ndA n) 120)).alloc (.cells #[.int .i64 0, .int .i64 0, .int .i64 0, .int .i64 0, .int .i64 0, .int .i64 0] 32)).cell? ⟨w.heap.size, 3, none⟩ = some (.int .i64 n.g) := hr2.cell 3
  have c4 : ((w.alloc (.cells (ndA n) 120)).alloc (.cells #[.int .i64 0, .int .i64 0, .int .i64 0, .int .i64 0, .int .i64 0, .int .i64 0] 32)).cell? ⟨w.heap.size, 4, none⟩ = some (.int .i64 n.sz) := hr2.cell 4
  have c5 : ((w.alloc (.cells (ndA n) 120)).alloc (.cells #[.int .i64 0, .int .i64 0, .int .i64 0, .int .i64 0, .int .i64 0, .int .i64 0] 32)).cell? ⟨w.heap.size, 5, none⟩ = some (.int .i64 n.l) := hr2.cell 5
  have s1 := hrS.st0 (cs := stA n) rfl (by kernel_rfl) (by simp [stA, Value.oneCell'])
  have l1 := (hrS.setRow (stA n)).ldV Tryz.underlying32 rfl (by kernel_rfl)
  have HU : Hid (Below w.heap.size w (((w.alloc (.cells (ndA n) 120)).alloc (.cells #[.int .i64 0, .int .i64 0, .int .i64 0, .int .i64 0, .int .i64 0, .int .i64 0] 32)).setRow (w.heap.size + 1) (stA n))) := Lib.hid (HS.out.trans ((Upd.setRow (S := fun j => j = w.heap.size + 1) _ (stA n) rfl).toBelow HS.out.size (fun k hk e => by have e : k = w.heap.size + 1 := e; omega)))
  generalize hA : ndA n = A at *
  clear hr hrS hr2 hA
  go_enter Tryz.func230, Tryz.ntmps230
  go_upto_region 1 with fail
  generalize (w.alloc (.cells A 120)).alloc (.cells #[.int .i64 0, .int .i64 0, .int .i64 0, .int .i64 0, .int .i64 0, .int .i64 0] 32) = w2 at *
  unfold stA at s1 l1 HU
  go_wp2_with fail
  exact bodyPost_ret (v := .agg #[.int .i64 n.k, .int .i64 n.m, .int .i64 n.u, .int .i64 n.g, .int .i64 n.sz, .int .i64 n.l]) (by rw [results_cell1 rfl]; simp [asAddr, Result.andThen, l1]) rfl ⟨rfl, HU.out⟩
end
end Go.Proofs.YtlfemcbfclallaaGreatDoor
namespace Go.Proofs.YtlfemcbfclallaaGreatDoor
open Go.RowKit Go.Maps
set_option linter.unusedVariables false
set_option linter.unusedSimpArgs false
section
variable {w : World} {c : FC} {x : FM}
theorem FSt.hold {w' : World} (h : FSt w c x) {n : Nat} {f : Int → Option Nat} (hg : w.grownBy w' (some c.hb)) (hm : CMap cH w' c.hb n f) : FSt w' c { x with held := f, nh := n } := by
  have hu : Upd (fun j => j = c.hb) w w' := Upd.grown hg rfl
  obtain ⟨m1, m2, m3, m4, m5, m6⟩ := h.n1
  obtain ⟨d1, d2, d3, d4⟩ := h.n2
  obtain ⟨C, hC⟩ := h.nb
  have hbm : fMut c x c.hb := .inr (.inr (.inl rfl))
  exact ⟨h.row.upd hu m2, h.lone, h.fr, h.lg.upd hu (fun e => m6 e.symm), ⟨C, hC.upd hu (fun e => h.nm (by rw [e]; exact hbm))⟩, h.cp, fun i hi => ⟨(h.ps i hi).1.upd hu (fun j e q => (h.ps i hi).1.n j e (by rw [q]; exact hbm)), (h.ps i hi).2⟩, h.td.upd hu m4, fun p s e => ⟨(h.tb p s e).1.upd hu (fun j q k => (h.tb p s e).1.n j q (by rw [k]; exact hbm)), (h.tb p s e).2⟩, hm, h.dk.upd8 hu (fun e => d3 (.inl e.symm)) (fun e => d3 (.inr (.inl e.symm))) (fun e => d3 (.inr (.inr (.inl e.symm)))) (fun j e q => d3 (.inr (.inr (.inr (by rw [← q]; exact e))))), h.nm, h.n1, h.n2, h.bm, h.bn, fun j e => Nat.lt_of_lt_of_le (h.lt j e) hu.size⟩
def hcn : Option Nat → Nat
  | none => 0
  | some n => n + 1
theorem encH_c (o : Option Nat) : encH o = .int .i64 (hcn o) := by cases o <;> simp [encH, hcn]
set_option maxRecDepth 100000 in
set_option maxHeartbeats 800000 in
theorem hold_is (h : FSt w c x) {i : Nat} (hi : i < 32) {n : Int} (hn : n = i + 1) (hk : ¬ (x.nd i).k = 0) (hh : x.nh < 1000) (hc : hcn (x.held n) < 1000) : Calls Tryz.prog 153 #[.pointer (some ⟨c.F, 0, none⟩), .int .i64 n] w fun e w' => e = .returned (.int .i64 0) ∧ FSt w' c { x with held := fun j => if j = n then some (hcn (x.held n)) else x.held j, nh := x.nh + 1 } ∧ Upd (fun j => j = c.hb) w w' := by
  have HT : Hid (Calls Tryz.prog 211 #[.pointer (some ⟨c.F, 0, none⟩), .int .i64 n] w fun e w' => e = .returned (.bool true) ∧ w = w') := Lib.hid (by have := thereF_is h hi hn; rw [decide_eq_false hk] at this; exact this)
  have c6 := h.c6
  have hwf : (Lit.int .i64 n).wf = true := WalkArith.wf_i64 (by omega)
  have lk := h.hd.look (T := 135) Tryz.underlying135 (zeroH w) hwf
  obtain ⟨w', hput, hm, hg⟩ := h.hd.put (T := 135) Tryz.underlying135 hwf (by unfold maxLen; omega) (hcn (x.held n))
  have HF := Lib.hid (And.intro (h.hold hg hm) (Upd.grown hg (S := fun j => j = c.hb) rfl))
  replace lk : (Instr.lookup 135 (.map (some c.hb)) (.int .i64 n) false).run Tryz.prog w = .ok (.int .i64 (hcn (x.held n))) w := by rw [← encH_c]; exact lk
  replace hput : (Instr.mapUpdate 135 (.map (some c.hb)) (.int .i64 n) (.int .i64 ((hcn (x.held n) : Int) + 1))).run Tryz.prog w = .ok () w' := hput
  have y1 : IntKind.i64.wrap ((hcn (x.held n) : Int) + 1) = hcn (x.held n) + 1 := IntWalk.i64_in _ (by omega)
  generalize hcn (x.held n) = k at *
  clear h hg hm hn hk
  go_enter Tryz.func153, Tryz.ntmps153
  go_wp2_with (go_at_call 211; (with_reducible refine HT.out.mono ?_); rintro e1 w1 ⟨rfl, rfl⟩)
  go_ret
  exact ⟨rfl, HF.out⟩
section
attribute [local go_sem ↓] ld_ino st_sta
set_option maxRecDepth 100000 in
set_option maxHeartbeats 800000 in
theorem statF_is (h : FSt w c x) {i : Nat} (hi : i < 32) {n : Int} (hn : n = i + 1) (hk : ¬ (x.nd i).k = 0) : Calls Tryz.prog 160 #[.pointer (some ⟨c.F, 0, none⟩), .int .i64 n] w fun e w' => e = .returned (.tuple #[.agg (stA (x.nd i)), .int .i64 0]) ∧ Below w.heap.size w w' := by
  have hal := Go.Joins.below_alloc1 w (.cells #[.int .i64 0, .int .i64 0, .int .i64 0, .int .i64 0, .int .i64 0, .int .i64 0] 32)
  have h1 := h.keep hal
  have HT : Hid (Calls Tryz.prog 211 #[.pointer (some ⟨c.F, 0, none⟩), .int .i64 n] (w.alloc (.cells #[.int .i64 0, .int .i64 0, .int .i64 0, .int .i64 0, .int .i64 0, .int .i64 0] 32)) fun e w' => e = .returned (.bool true) ∧ w.alloc (.cells #[.int .i64 0, .int .i64 0, .int .i64 0, .int .i64 0, .int .i64 0, .int .i64 0] 32) = w') := Lib.hid (by have := thereF_is h1 hi hn; rw [decide_eq_false hk] at this; exact this)
  have c4 := h1.c4
  obtain ⟨C, hC⟩ := h1.nb
  have l1 := hC.ld hi
  have hcm : (x.cap : Int) ≤ 9223372036854775807 := by have := h.cp.2; unfold maxLen at this; omega
  have y1 : IntKind.i64.wrap (n - 1) = i := by rw [IntWalk.i64_in _ (by omega)]; omega
  have i3 : (i : Int) < 32 := by omega
  have i0 : (0 : Int) ≤ i := by omega
  have HI := Lib.hid (istat_is (w.alloc (.cells #[.int .i64 0, .int .i64 0, .int .i64 0, .int .i64 0, .int .i64 0, .int .i64 0] 32)) (x.nd i))
  have HR := Lib.hid (row_new w 32 #[.int .i64 0, .int .i64 0, .int .i64 0, .int .i64 0, .int .i64 0, .int .i64 0])
  have HB := Lib.hid hal
  have HS := Lib.hid (fun (w2 : World) (r2 : Row w2 w.heap.size 32 #[.int .i64 0, .int .i64 0, .int .i64 0, .int .i64 0, .int .i64 0, .int .i64 0]) => And.intro (r2.st0 (cs := stA (x.nd i)) rfl (by kernel_rfl) (by simp [stA, Value.oneCell'])) ((r2.setRow (stA (x.nd i))).ldV Tryz.underlying32 rfl (by kernel_rfl)))
  clear h h1 hal hC hn hk
  generalize ndA (x.nd i) = A at *
  generalize stA (x.nd i) = S at *
  go_enter Tryz.func160, Tryz.ntmps160
  go_upto_region 1 with fail
  generalize w.alloc (.cells #[.int .i64 0, .int .i64 0, .int .i64 0, .int .i64 0, .int .i64 0, .int .i64 0] 32) = w1 at *
  go_wp2_with (first | (go_at_call 211; (with_reducible refine HT.out.mono ?_); rintro e1 w1 ⟨rfl, rfl⟩) | (go_at_call 230; (with_reducible refine HI.out.mono ?_); rintro e2 w2 ⟨rfl, hb2⟩; obtain ⟨s2, l2⟩ := HS.out w2 (HR.out.keep hb2); have HB2 := Lib.hid hb2; clear hb2))
  have hb3 := HB.out.trans (HB2.out.mono HB.out.size)
  exact bodyPost_ret (v := .tuple #[.agg S, .int .i64 0]) (by rw [results_cell_tmp rfl]; simp [asAddr, Result.andThen, l2]) rfl ⟨rfl, hb3.trans ((Upd.setRow (S := fun j => j = w.heap.size) w2 S rfl).toBelow hb3.size (fun k hk e => by have e : k = w.heap.size := e; omega))⟩
end
end
section
variable {w0 w : World} {c : FC} {x : FM} {t : Nat} {y : TM}
set_option maxRecDepth 100000 in
set_option maxHeartbeats 800000 in
theorem enter0_is (h : TX w0 w c x t y) (hps : (y.nd 0).ps = []) (hsz : (y.nd 0).sz = 0) {q : Nat} (hq : Fst y.G q) (hnp : y.np < 1000) (hnb : y.nb < 1000) :
    Calls Tryz.prog 210 #[.pointer (some ⟨t, 0, none⟩), .int .i64 1, .string ⟨#[102]⟩, .int .i64 2] w fun e w' => e = .returned (.int .i64 0) ∧ FillT w0 c x t y 0 q (gOn y.G q) entL w' ∧ (∀ j, tMut t y j → j < w.heap.size) ∧ Upd (tMut t y) w w' := by
  have HE := Lib.hid (entries0_is h (i := 0) (by decide) hps hsz (n := 1) rfl)
  have HH := Lib.hid h
  have HX := Lib.hid (And.intro hps (And.intro hq (And.intro hnp hnb)))
  clear h hps hsz hq hnp hnb
  go_enter Tryz.func210, Tryz.ntmps210
  go_wp2_with (first | (go_at_call 206; (with_reducible refine HE.out.mono ?_); rintro e1 w1 ⟨rfl, hb1⟩; have HP := Lib.hid (put0_is w1); have HB1 := Lib.hid hb1; clear hb1) | (go_at_call 270; (with_reducible refine HP.out.mono ?_); rintro e2 w2 ⟨gb, rfl, hgb, hk2, hb2⟩; have HB2 := Lib.hid (HB1.out.trans (hb2.mono HB1.out.size)); have hat2 := (ob_of_bk (B := 0) (c := 16) hk2 (Nat.zero_le _) (by decide) rfl).at; have HFL := Lib.hid (fillN_is (HH.out.keep HB2.out) (i := 0) (by decide) HX.out.1 (n := 1) rfl (q := q) (G' := gOn y.G q) (.inl ⟨rfl, HX.out.2.1, rfl⟩) (v := .slice (some ⟨gb, 0, none⟩) 16 16) (z := entL) hat2 (by decide) (by decide) (fun j e q => by injection e with e; have hm := (HH.out.mlt q).2; have hz := HB1.out.size; have e : gb = j := e; omega) HX.out.2.2.1 HX.out.2.2.2); clear hgb hk2 hb2 hat2) | (go_at_call 209; (with_reducible refine HFL.out.mono ?_); rintro e3 w3 ⟨rfl, hF, hU⟩; have HF := Lib.hid hF; have HU := Lib.hid ((Upd.below (S := tMut t y) HB2.out).trans hU); clear hF hU))
  go_ret
  exact ⟨rfl, HF.out, fun j hj => (HH.out.mlt hj).2, HU.out⟩
end
end Go.Proofs.YtlfemcbfclallaaGreatDoor
