/- The walks of fs's leave and drop: the name "f" goes, its file is held. The walk of fs's end where one sector is given back. -/
import Derived.Test.YtlfemcbfclallaaGreatDoorHdB
import Derived.Test.YtlfemcbfclallaaGreatDoorFsK
namespace Go.Proofs.YtlfemcbfclallaaGreatDoor
open Go.RowKit Go.Maps
set_option linter.unusedVariables false
set_option linter.unusedSimpArgs false
section
variable {w0 w w' : World} {c : FC} {x : FM} {t : Nat} {y : TM}
set_option maxRecDepth 100000 in
set_option maxHeartbeats 1000000 in
theorem leave1_is (h : TX w0 w c x t y) {q : Nat} (hps : (y.nd 0).ps = [(q : Int)]) (hq0 : q ≠ 0) (hq : q < 256) (hsz : (y.nd 0).sz = 16) (hf : (tsec x y q).take 16 = entL) (hgv : y.gv = .slice none 0 0) (hnb : y.nb < 1000) :
    Calls Tryz.prog 233 #[.pointer (some ⟨t, 0, none⟩), .int .i64 1, .string ⟨#[102]⟩] w fun e w' => e = .returned (.tuple #[]) ∧ (∃ v' gv, TX w0 w' c x t { y with nd := ups1 y.nd 0 { (y.nd 0) with sz := 0, pv := v', ps := [] }, dy := fun j => if j = 1 then some () else y.dy j, nb := y.nb + 1, gv := gv, gl := [(q : Int)] }) ∧ Upd (tMut t y) w w' := by
  have HE := Lib.hid (entries1_is h (i := 0) (L := 16) (by decide) hps hq0 hq hsz (by decide) (n := 1) rfl)
  have HH := Lib.hid h
  have HX := Lib.hid (And.intro hps (And.intro hgv (And.intro hnb hf)))
  clear h hps hgv hnb hf hsz hq0 hq
  go_enter Tryz.func233, Tryz.ntmps233
  go_wp2_with (first | (go_at_call 206; (with_reducible refine HE.out.mono ?_); rintro e1 w1 ⟨v1, rfl, ha1, -, hb1⟩; have ha1 : At (Value.int .u8) 0 w1 v1 entL := (by rw [HX.out.2.2.2] at ha1; exact ha1); obtain ⟨b3, o3, c3, rfl⟩ := ha1.form16 rfl; have HO := Lib.hid (out1_is ha1); have HB1 := Lib.hid hb1; clear hb1 ha1) | (go_at_call 292; (with_reducible refine HO.out.mono ?_); rintro e2 w2 ⟨g, rfl, h1, h2, hb2⟩; have HB2 := Lib.hid (HB1.out.trans (hb2.mono HB1.out.size)); have HFL := Lib.hid (fillO_is (HH.out.keep HB2.out) (i := 0) (by decide) HX.out.1 HX.out.2.1 (n := 1) rfl (az := some ⟨g, 0, none⟩) (cz := 0) (Nat.zero_le _) HX.out.2.2.1); clear h1 h2 hb2) | (go_at_call 209; (with_reducible refine HFL.out.mono ?_); rintro e3 w3 ⟨rfl, hF, hU⟩; have HF := Lib.hid hF; have HU := Lib.hid ((Upd.below (S := tMut t y) HB2.out).trans hU); clear hF hU))
  refine bodyPost_end (results_none rfl _ _ _) rfl ⟨rfl, HF.out, HU.out⟩
attribute [local go_sem ↓] ld_ino st_ino2
set_option maxRecDepth 100000 in
set_option maxHeartbeats 1000000 in
theorem freeH_is (h : TX w0 w c x t y) {i : Nat} (hi : i < 32) {n : Int} (hn : n = i + 1) (hl : (y.nd i).l = 0) (hh : 0 < hcn (x.held n)) : Calls Tryz.prog 56 #[.pointer (some ⟨t, 0, none⟩), .int .i64 n] w fun e w' => e = .returned (.tuple #[]) ∧ Below w.heap.size w w' := by
  have HN := Lib.hid (node_is h hi hn)
  have HH := Lib.hid h
  obtain ⟨N, hNd⟩ : ∃ N, N = y.nd i := ⟨_, rfl⟩
  rw [← hNd] at HN hl
  have HHN := Lib.hid (And.intro hn (And.intro hi hh))
  have hsn := fun w => st0_new w (T := 120) (c := #[.int .i64 0, .int .i64 0, .int .i64 0, .int .i64 0, .int .i64 0, .int .i64 0, .int .i64 0, .slice none 0 0]) (cs := ndA N) rfl (by rw [ndA_size]; kernel_rfl) (ndA_one N (by rw [hNd]; exact ip_one (h.ps i hi)))
  clear h hi hh hNd hn
  go_enter Tryz.func56, Tryz.ntmps56
  go_upto_region 1 with (go_at_call 118; refine HN.out.mono ?_; rintro e1 w1 ⟨rfl, hb1⟩; have HB1 := Lib.hid hb1; clear hb1)
  have hr2 := row_new w1 120 (ndA N)
  have hb2 : Below w.heap.size w (w1.alloc (.cells (ndA N) 120)) := HB1.out.trans ((Go.Joins.below_alloc1 w1 _).mono HB1.out.size)
  have c5 : (w1.alloc (.cells (ndA N) 120)).cell? ⟨w1.heap.size, 5, none⟩ = some (.int .i64 0) := by rw [hr2.cell]; show some (Value.int .i64 N.l) = _; rw [hl]
  have HT := Lib.hid (HH.out.keep hb2)
  have HB2 := Lib.hid hb2
  clear hsn HN HB1 hr2 hb2
  generalize w1.alloc (.cells (ndA N) 120) = w2 at *
  have t0 := HT.out.c0
  have f6 := HT.out.st.c6
  have lk := HT.out.st.hd.look (T := 135) Tryz.underlying135 (zeroH w2) (k := n) (WalkArith.wf_i64 (by have h1 := HHN.out.1; have h2 := HHN.out.2.1; omega))
  replace lk : (Instr.lookup 135 (.map (some c.hb)) (.int .i64 n) false).run Tryz.prog w2 = .ok (.int .i64 (hcn (x.held n))) w2 := by rw [← encH_c]; exact lk
  obtain ⟨m, hm⟩ : ∃ m, m = hcn (x.held n) := ⟨_, rfl⟩
  have hm1 : (0 : Int) < m := by have := HHN.out.2.2; omega
  rw [← hm] at lk
  clear hm
  go_wp2_with fail
  refine bodyPost_ret (results_none rfl _ _ _) rfl ⟨rfl, HB2.out⟩
set_option maxRecDepth 100000 in
set_option maxHeartbeats 1000000 in
theorem dropH_is (h : TX w0 w c x t y) (hl : (y.nd 1).l = 1) (hh : 0 < hcn (x.held 2)) (hnb : y.nb < 1000) : Calls Tryz.prog 234 #[.pointer (some ⟨t, 0, none⟩), .int .i64 2] w fun e w' => e = .returned (.tuple #[]) ∧ TX w0 w' c x t { y with nd := ups1 y.nd 1 { (y.nd 1) with l := 0 }, dy := fun j => if j = 2 then some () else y.dy j, nb := y.nb + 1 } ∧ Upd (tMut t y) w w' := by
  have HN := Lib.hid (node_is h (i := 1) (by decide) (n := 2) rfl)
  have HH := Lib.hid h
  obtain ⟨N, hNd⟩ : ∃ N, N = y.nd 1 := ⟨_, rfl⟩
  rw [← hNd] at HN hl
  have HHN := Lib.hid (And.intro hNd (And.intro hh hnb))
  have hsn := fun w => st0_new w (T := 120) (c := #[.int .i64 0, .int .i64 0, .int .i64 0, .int .i64 0, .int .i64 0, .int .i64 0, .int .i64 0, .slice none 0 0]) (cs := ndA N) rfl (by rw [ndA_size]; kernel_rfl) (ndA_one N (by rw [hNd]; exact ip_one (h.ps 1 (by decide))))
  clear h hh hNd hnb
  go_enter Tryz.func234, Tryz.ntmps234
  go_upto_region 1 with (go_at_call 118; refine HN.out.mono ?_; rintro e1 w1 ⟨rfl, hb1⟩; have HB1 := Lib.hid hb1; clear hb1)
  have hr2 := row_new w1 120 (ndA N)
  have hb2 : Below w.heap.size w (w1.alloc (.cells (ndA N) 120)) := HB1.out.trans ((Go.Joins.below_alloc1 w1 _).mono HB1.out.size)
  have c5 : (w1.alloc (.cells (ndA N) 120)).cell? ⟨w1.heap.size, 5, none⟩ = some (.int .i64 1) := by rw [hr2.cell]; show some (Value.int .i64 N.l) = _; rw [hl]
  have HT := Lib.hid (HH.out.keep hb2)
  have HB2 := Lib.hid hb2
  have HR := Lib.hid hr2
  have z5 := hr2.fz 5
  have HNK : Hid (w.heap.size ≤ w1.heap.size) := Lib.hid HB1.out.size
  clear hsn HN HB1 hr2 hb2
  generalize w1.alloc (.cells (ndA N) 120) = w2 at *
  generalize w1.heap.size = nbk at *
  go_upto_region 2 with fail
  obtain ⟨w5, hw5⟩ : ∃ w5, w5 = w2.setCell ⟨nbk, 5, none⟩ (.int .i64 0) := ⟨_, rfl⟩
  rw [← hw5]
  have hu5 : Upd (fun j => j = nbk) w2 w5 := by rw [hw5]; exact Upd.set w2 (b := nbk) (i := 5) _ rfl
  have hr5 : Row w5 nbk 120 (ndA { N with l := 0 }) := by
    rw [hw5, HR.out.setCell]
    exact HR.out.setRow _
  have hT5 : TX w0 w5 c x t y := HT.out.far hu5 (fun k ek => by
    subst ek
    have hj := HNK.out
    exact ⟨Nat.le_trans HH.out.bl.size hj, fun e => by have := (HH.out.mlt e).2; omega, fun i hi e => by have := (HH.out.ps i hi).lt k e; omega, fun p s e => by have := HH.out.ltP e; omega⟩)
  have l5 : (ldR 120 (.pointer (some ⟨nbk, 0, none⟩))).run Tryz.prog w5 = .ok (.agg (ndA { N with l := 0 })) w5 := hr5.ld0 Tryz.underlying120 rfl (by rw [ndA_size]; kernel_rfl)
  have HIP : Ip (fun j => fMut c x j ∨ tMut t y j ∨ (¬ x.bs j ∧ j < w0.heap.size)) w5 { N with l := 0 } := by
    have q := hT5.ps 1 (by decide)
    rw [← HHN.out.1] at q
    exact ⟨q.a, q.n, q.lt⟩
  have HSE := Lib.hid (set_is hT5 (i := 1) (by decide) (n := 2) rfl HIP HHN.out.2.2)
  have HU5 := Lib.hid ((Upd.below (S := tMut t y) HB2.out).trans' hu5 (fun k hk e => by have := HNK.out; omega))
  clear hw5 hu5 hr5 hT5 HIP z5 c5 HR HT
  go_wp2_with (first | (go_at_call 119; (with_reducible refine HSE.out.mono ?_); rintro e9 w9 ⟨rfl, hT9, hu9⟩; have HT9 := Lib.hid hT9; have HU9 := Lib.hid (HU5.out.trans hu9); have HFR := Lib.hid (freeH_is hT9 (i := 1) (by decide) (n := 2) rfl (congrArg Nd.l (ups1_same y.nd 1 { N with l := 0 })) HHN.out.2.1); clear hT9 hu9) | (go_at_call 56; (with_reducible refine HFR.out.mono ?_); rintro e10 w10 ⟨rfl, hb10⟩))
  refine bodyPost_end (results_none rfl _ _ _) rfl ⟨rfl, ?_, HU9.out.trans (Upd.below hb10)⟩
  rw [← HHN.out.1]
  exact HT9.out.keep hb10
end
end Go.Proofs.YtlfemcbfclallaaGreatDoor
namespace Go.Proofs.YtlfemcbfclallaaGreatDoor
open Go.RowKit Go.Maps
set_option linter.unusedVariables false
set_option linter.unusedSimpArgs false
theorem bits_u8 (op : BinOp) (x y : Int) : 0 ≤ bits op .u8 x y ∧ bits op .u8 x y < 256 := by
  unfold bits
  split <;> simp only [IntKind.wrap_u8] <;> omega
section
attribute [local go_sem ↓] ld_set st_set
set_option maxRecDepth 100000 in
set_option maxHeartbeats 400000 in
theorem without_is (w : World) {h : Nat → Nat} (hh : ∀ j, h j < 256) {n : Nat} (hn : n < 256) : Calls Tryz.prog 122 #[.agg (setA h), .int .i64 n] w fun e w' => ∃ h', (∀ j, h' j < 256) ∧ (∀ j, j ≠ n / 8 → h' j = h j) ∧ e = .returned (.agg (setA h')) ∧ Below w.heap.size w w' := by
  have hsz := setA_size h
  have i0 : (0 : Int) ≤ n := by omega
  have i1 : (n : Int) < 256 := by omega
  have HN := Lib.hid hn
  have HH := Lib.hid hh
  clear hn hh
  obtain ⟨A, hA⟩ : ∃ A, A = setA h := ⟨_, rfl⟩
  rw [← hA] at hsz ⊢
  have HA := Lib.hid hA
  clear hA
  go_enter Tryz.func122, Tryz.ntmps122
  go_upto_region 2 with fail
  obtain ⟨w2, hw2⟩ : ∃ w2, w2 = (w.alloc (.cells A 111)).alloc (.cells #[.int .u8 0, .int .u8 0, .int .u8 0, .int .u8 0, .int .u8 0, .int .u8 0, .int .u8 0, .int .u8 0, .int .u8 0, .int .u8 0, .int .u8 0, .int .u8 0, .int .u8 0, .int .u8 0, .int .u8 0, .int .u8 0, .int .u8 0, .int .u8 0, .int .u8 0, .int .u8 0, .int .u8 0, .int .u8 0, .int .u8 0, .int .u8 0, .int .u8 0, .int .u8 0, .int .u8 0, .int .u8 0, .int .u8 0, .int .u8 0, .int .u8 0, .int .u8 0] 111) := ⟨_, rfl⟩
  rw [← hw2]
  have R1 : Row w2 w.heap.size 111 A := by rw [hw2]; exact (row_new w _ A).alloc _
  have R2 : Row w2 (w.heap.size + 1) 111 #[.int .u8 0, .int .u8 0, .int .u8 0, .int .u8 0, .int .u8 0, .int .u8 0, .int .u8 0, .int .u8 0, .int .u8 0, .int .u8 0, .int .u8 0, .int .u8 0, .int .u8 0, .int .u8 0, .int .u8 0, .int .u8 0, .int .u8 0, .int .u8 0, .int .u8 0, .int .u8 0, .int .u8 0, .int .u8 0, .int .u8 0, .int .u8 0, .int .u8 0, .int .u8 0, .int .u8 0, .int .u8 0, .int .u8 0, .int .u8 0, .int .u8 0, .int .u8 0] := by
    rw [hw2]
    have := row_new (w.alloc (.cells A 111)) 111 #[.int .u8 0, .int .u8 0, .int .u8 0, .int .u8 0, .int .u8 0, .int .u8 0, .int .u8 0, .int .u8 0, .int .u8 0, .int .u8 0, .int .u8 0, .int .u8 0, .int .u8 0, .int .u8 0, .int .u8 0, .int .u8 0, .int .u8 0, .int .u8 0, .int .u8 0, .int .u8 0, .int .u8 0, .int .u8 0, .int .u8 0, .int .u8 0, .int .u8 0, .int .u8 0, .int .u8 0, .int .u8 0, .int .u8 0, .int .u8 0, .int .u8 0, .int .u8 0]
    simpa using this
  have HB : Hid (Below w.heap.size w w2) := Lib.hid (by rw [hw2]; exact ((Below.refl _ _).alloc (Nat.le_refl _) _).alloc (by simp) _)
  clear hw2
  have hn := HN.out
  obtain ⟨q, hq⟩ : ∃ q, q = n / 8 := ⟨_, rfl⟩
  obtain ⟨r, hr⟩ : ∃ r, r = n % 8 := ⟨_, rfl⟩
  have p8 : 2 ^ r < 2 ^ 8 := Nat.pow_lt_pow_right (by decide) (by omega)
  have c1 : w2.drew.cell? ⟨w.heap.size, q, none⟩ = some (.int .u8 (h q)) := by
    rw [R1.drew.cell, HA.out, setA_get _ (by omega)]
  have z1 : w2.drew.frozen? ⟨w.heap.size, q, none⟩ = false := R1.drew.fz q
  have e1 : (n : Int).tdiv 8 = q := by rw [Int.tdiv_eq_ediv_of_nonneg (by omega)]; omega
  have e2 : (n : Int) / 8 = q := by omega
  have e3 : (n : Int).tmod 8 = r := by rw [Int.tmod_eq_emod_of_nonneg (by omega)]; omega
  have e4 : (n : Int) % 8 = r := by omega
  have q32 : (q : Int) < 32 := by omega
  obtain ⟨m, s2, hm⟩ : ∃ m : Nat, bits BinOp.andNot IntKind.u8 (h q : Int) ((2 : Int) ^ r % 256) = (m : Int) ∧ m < 256 := by
    obtain ⟨h1, h2⟩ := bits_u8 .andNot (h q : Int) ((2 : Int) ^ r % 256)
    exact ⟨(bits BinOp.andNot IntKind.u8 (h q : Int) ((2 : Int) ^ r % 256)).toNat, by omega, by omega⟩
  obtain ⟨h', hh'⟩ : ∃ h', h' = up h (n / 8) m := ⟨_, rfl⟩
  have eB : A.setIfInBounds q (.int .u8 (m : Int)) = setA h' := by
    rw [HA.out, setA_up _ (by omega)]
    rw [hh', hq]
  have R3 : Row ((w2.setCell ⟨w.heap.size, q, none⟩ (.int .u8 (m : Int))).drew) w.heap.size 111 (setA h') := by
    rw [R1.setCell, ← eB]
    exact (R1.setRow _).drew
  have R4 : Row ((w2.setCell ⟨w.heap.size, q, none⟩ (.int .u8 (m : Int))).drew) (w.heap.size + 1) 111 #[.int .u8 0, .int .u8 0, .int .u8 0, .int .u8 0, .int .u8 0, .int .u8 0, .int .u8 0, .int .u8 0, .int .u8 0, .int .u8 0, .int .u8 0, .int .u8 0, .int .u8 0, .int .u8 0, .int .u8 0, .int .u8 0, .int .u8 0, .int .u8 0, .int .u8 0, .int .u8 0, .int .u8 0, .int .u8 0, .int .u8 0, .int .u8 0, .int .u8 0, .int .u8 0, .int .u8 0, .int .u8 0, .int .u8 0, .int .u8 0, .int .u8 0, .int .u8 0] := by
    rw [R1.setCell]
    exact (R2.setRowO (by omega) _).drew
  have HB3 : Hid (Below w.heap.size w ((w2.setCell ⟨w.heap.size, q, none⟩ (.int .u8 (m : Int))).drew)) := Lib.hid (HB.out.setCell (Nat.le_refl _) _).drew
  have HR3 := Lib.hid R3
  have HR4 := Lib.hid R4
  have HY : Hid ((∀ j, h' j < 256) ∧ (∀ j, j ≠ n / 8 → h' j = h j)) := Lib.hid ⟨fun j => by
    rw [hh']
    unfold up
    split
    · exact hm
    · exact HH.out j, fun j hj => by
    rw [hh']
    unfold up
    rw [if_neg (by omega)]⟩
  clear hq hr hm hh' p8 R1 R2 R3 R4 hn eB HB
  generalize (m : Int) = x3 at *
  go_region
  generalize (w2.setCell ⟨w.heap.size, q, none⟩ (.int .u8 x3)).drew = w3 at *
  have l1 := HR3.out.ld0 Tryz.underlying111 rfl (by rw [setA_size]; kernel_rfl)
  have l2 := HR4.out.st0 (cs := setA h') (by rw [setA_size]; rfl) (by rw [setA_size]; kernel_rfl) (setA_one _)
  have l3 := (HR4.out.setRow (setA h')).ldV Tryz.underlying111 rfl (by rw [setA_size]; kernel_rfl)
  have HB4 := Lib.hid (HB3.out.trans (Upd.toBelow (Upd.setRow w3 (b := w.heap.size + 1) (setA h') (S := fun k => k = w.heap.size + 1) rfl) HB3.out.size (by omega)))
  generalize w3.setRow (w.heap.size + 1) (setA h') = w4 at *
  generalize hBq : setA h' = B at *
  have HBq := Lib.hid hBq
  clear hBq
  go_wp2_with fail
  exact bodyPost_ret (v := .agg B) (by rw [results_cell1 rfl]; simp [asAddr, Result.andThen, l3]) rfl ⟨h', HY.out.1, HY.out.2, by rw [HBq.out], HB4.out⟩
end
theorem upH_off {G g : Nat → Nat} {j : Nat} (hj : j < 16 ∨ 48 ≤ j) : ups G 16 32 g j = G j := by unfold ups; rw [if_neg (by omega)]
theorem upH_lone {G g : Nat → Nat} (h : Lone1 G) (hg : ∀ j, g j < 256) : Lone1 (ups G 16 32 g) := by
  refine ⟨by rw [upH_off (by omega)]; exact h.t0, by rw [upH_off (by omega)]; exact h.t1, by rw [upH_off (by omega)]; exact h.t2, by rw [upH_off (by omega)]; exact h.t3, fun j => ?_⟩
  unfold ups
  split
  · exact hg _
  · exact h.lt j
theorem upH_fr {G g : Nat → Nat} (h : Lone1 G) (hf : FR G) (hg : ∀ j, g j < 256) : FR (ups G 16 32 g) := by
  refine ⟨fun k i _ _ => (upH_lone h hg).lt _, fun k hk h0 => ?_⟩
  by_cases e : k = 0
  · subst e
    exact absurd h0 (upH_lone h hg).t0
  · rw [upH_off (by omega)] at h0
    have := hf.tr k hk h0
    rw [← this]
    congr 1
    funext j
    exact upH_off (by omega)
section
variable {w0 w : World} {c : FC} {x : FM} {t : Nat} {y : TM}
theorem TX.stHo (h : TX w0 w c x t y) {g : Nat → Nat} (hg : ∀ j, g j < 256) : (stR 111 (.pointer (some ⟨t, 17, none⟩)) (.agg (setA g))).run Tryz.prog w = .ok () (w.setRow t (putA (txR c y) 17 (setA g).toList)) ∧ TX w0 (w.setRow t (putA (txR c y) 17 (setA g).toList)) c x t { y with G := ups y.G 16 32 g } :=
  ⟨h.row.st (U := 111) (by rw [setA_size, txR_size]; decide) (by rw [setA_size]; kernel_rfl) (setA_one _), h.forest (txR_put c y _) (upH_lone h.lone hg) (upH_fr h.lone h.fr hg)⟩
attribute [local go_sem ↓] ld_set st_set
attribute [local go_sem ↓] ld_ino st_ino2 appB_eq
set_option maxRecDepth 100000 in
set_option maxHeartbeats 2000000 in
theorem endG_is (h : TX w0 w c x t y) {q : Nat} (hq : 5 ≤ q ∧ q < 256) (hok : ∀ i, i < 32 → NdOk (y.nd i) ∨ y.nd i = nd0) (hG : ∀ k, k < 16 → 5 ≤ y.G k ∧ y.G k < 256) (hgl : y.gl = [(q : Int)]) (hn : x.na + y.np + cntD y 16 + 4 ≤ 30) (hpt : ∀ j, 1 ≤ j → j ≤ 4 → y.pt j = none) :
    Calls Tryz.prog 57 #[.pointer (some ⟨t, 0, none⟩)] w fun e w' => e = .returned (.int .i64 0) ∧ (∃ P n B G', n ≤ y.np + cntD y 16 + 4 ∧ (∀ j : Int, (∀ i, i < 16 → dirt y i = true → j ≠ (y.G i : Int)) → ¬ (1 ≤ j ∧ j ≤ 4) → j ≠ q → P j = y.pt j ∧ B j = y.pby j) ∧ (∀ j, j < 16 → G' j = y.G j) ∧ FSt w' c (keptM x { y with pt := P, np := n, pby := B, G := G' } w0.heap.size w'.heap.size)) ∧ Upd (fun j => j = c.F ∨ j = x.a) w0 w' := by
  have HFI := Lib.hid (fits_is h)
  have HH := Lib.hid h
  have HGL := Lib.hid hgl
  have HQ := Lib.hid hq
  have HX := Lib.hid (And.intro hok (And.intro hG (And.intro hn hpt)))
  clear h hok hG hn hpt hgl hq
  go_enter Tryz.func57, Tryz.ntmps57
  go_wp2_with (go_at_call 120; (with_reducible refine HFI.out.mono ?_); rintro e1 w1 ⟨rfl, rfl⟩)
  go_loopw [14] (fun iv wr => ∃ k : Nat, k ≤ 16 ∧ iv = .int .i64 k ∧ Hid (TX w0 wr c x t y) ∧ Hid (Upd (tMut t y) w wr)) (fun iv _ => 16 - (intOf iv).toNat)
  case atStart => exact ⟨0, by omega, rfl, HH, Lib.hid (Upd.refl _ _)⟩
  case round =>
    obtain ⟨k, hk0, rfl, HT, HU⟩ := hrel
    by_cases hk : k < 16
    · have i1 : (k : Int) < 16 := by omega
      have i0 : (0 : Int) ≤ k := by omega
      have y1 : IntKind.i64.wrap (2 * (k : Int)) = 2 * k := IntWalk.i64_in _ (by omega)
      have y2 : IntKind.i64.wrap (2 * (k : Int) + 1) = 2 * k + 1 := IntWalk.i64_in _ (by omega)
      have y3 : IntKind.i64.wrap (2 * (k : Int) + 2) = 2 * k + 2 := IntWalk.i64_in _ (by omega)
      have c4 := HT.out.c4
      have l1 := HT.out.lookD (n := 2 * (k : Int) + 1) (WalkArith.wf_i64 (by omega))
      have l2 := HT.out.lookD (n := 2 * (k : Int) + 2) (WalkArith.wf_i64 (by omega))
      obtain ⟨b1, hb1⟩ : ∃ b, b = (y.dy (2 * (k : Int) + 1)).isSome := ⟨_, rfl⟩
      obtain ⟨b2, hb2⟩ : ∃ b, b = (y.dy (2 * (k : Int) + 2)).isSome := ⟨_, rfl⟩
      rw [← hb1] at l1
      rw [← hb2] at l2
      clear hb1 hb2
      have HS := Lib.hid (fun wx (hx : TX w0 wx c x t y) => hx.same hk)
      have hdr := HT.out.keep (Below.refl wr.heap.size wr).drew
      have HOW := Lib.hid (ownP_is hdr (p := (y.G k : Int)) (by have := (HX.out.2.1 k hk).1; omega))
      have HDR := Lib.hid hdr
      obtain ⟨cc, -, -⟩ := HT.out.same hk
      clear hdr
      rcases b1 with _ | _ <;> rcases b2 with _ | _
      · go_upto_region 7 with fail
        go_roundw
        case rel => exact ⟨k + 1, by omega, by go_num, HT, HU⟩
        case measure => simp [intOf]; omega
      all_goals
        go_upto_region 7 with fail
        go_region_law (go_simp; go_at_call 121; refine HOW.out.mono ?_; rintro e3 w3 ⟨rfl, hb3⟩; have hT3 := HDR.out.keep hb3; obtain ⟨cc3, z3, hT4⟩ := HS.out w3 hT3; have HT4 := Lib.hid hT4; have HU3 : Hid (Upd (tMut t y) w w3) := Lib.hid ((HU.out.trans (Upd.drew wr)).trans (Upd.below hb3)); clear hT3 hT4 hb3)
        have HT5 := HT4
        have HU5 : Hid (Upd (tMut t y) w (w3.setCell ⟨t, 1 + k, none⟩ (.int .i64 (y.G k)))) := Lib.hid (HU3.out.trans (Upd.set w3 _ (.inl rfl)))
        clear HT4 HU3 cc3 z3
        generalize w3.setCell ⟨t, 1 + k, none⟩ (.int .i64 (y.G k)) = w5 at *
        go_wp2_with fail
        go_roundw
        case rel => exact ⟨k + 1, by omega, by go_num, HT5, HU5⟩
        case measure => simp [intOf]; omega
    · have hk16 : ¬ (k : Int) < 16 := by omega
      have c7 := HT.out.c7
      go_wp2_with fail
      have HT0 : Hid (∃ P n B, TX w0 wr c x t { y with pt := P, np := n, pby := B } ∧ n ≤ y.np + cntD y 0 ∧ (∀ j, (∀ i, i < 0 → dirt y i = true → j ≠ (y.G i : Int)) → P j = y.pt j ∧ B j = y.pby j)) := Lib.hid ⟨y.pt, y.np, y.pby, HT.out, Nat.le_add_right _ _, fun _ _ => ⟨rfl, rfl⟩⟩
      clear HT c7
      go_loopw [2, 57] (fun rv iv wr => ∃ k : Nat, k ≤ 16 ∧ rv = .int .i64 0 ∧ iv = .int .i64 k ∧ Hid (∃ P n B, TX w0 wr c x t { y with pt := P, np := n, pby := B } ∧ n ≤ y.np + cntD y k ∧ (∀ j, (∀ i, i < k → dirt y i = true → j ≠ (y.G i : Int)) → P j = y.pt j ∧ B j = y.pby j)) ∧ Hid (Upd (tMut t y) w wr)) (fun _ iv _ => 16 - (intOf iv).toNat)
      case atStart => exact ⟨0, by omega, rfl, rfl, HT0, HU⟩
      case round =>
        clear HT0 HU
        obtain ⟨k, hk0, rfl, rfl, HQ, HU⟩ := hrel
        obtain ⟨P, n, B, hT, hnp, hoff⟩ := HQ.out
        have HT := Lib.hid hT
        have HO := Lib.hid (And.intro hnp hoff)
        clear hT hnp hoff HQ
        by_cases hk : k < 16
        · have i1 : (k : Int) < 16 := by omega
          have i0 : (0 : Int) ≤ k := by omega
          have y1 : IntKind.i64.wrap (2 * (k : Int)) = 2 * k := IntWalk.i64_in _ (by omega)
          have y2 : IntKind.i64.wrap (2 * (k : Int) + 1) = 2 * k + 1 := IntWalk.i64_in _ (by omega)
          have y3 : IntKind.i64.wrap (2 * (k : Int) + 2) = 2 * k + 2 := IntWalk.i64_in _ (by omega)
          have c4 := HT.out.c4
          have l1 := HT.out.lookD (n := 2 * (k : Int) + 1) (WalkArith.wf_i64 (by omega))
          have l2 := HT.out.lookD (n := 2 * (k : Int) + 2) (WalkArith.wf_i64 (by omega))
          simp only at c4 l1 l2
          obtain ⟨b1, hb1⟩ : ∃ b, b = (y.dy (2 * (k : Int) + 1)).isSome := ⟨_, rfl⟩
          obtain ⟨b2, hb2⟩ : ∃ b, b = (y.dy (2 * (k : Int) + 2)).isSome := ⟨_, rfl⟩
          rw [← hb1] at l1
          rw [← hb2] at l2
          have hdt : dirt y k = (b1 || b2) := by unfold dirt; rw [hb1, hb2]
          have HDT := Lib.hid hdt
          clear hb1 hb2 hdt
          obtain ⟨C, hC⟩ := HT.out.nb
          simp only at hC
          have c3 := HT.out.c3
          simp only at c3
          have ld1 := hC.ld (i := 2 * k) (by omega)
          have HIP1 := Lib.hid (ipackA_is (w := wr) (x := y.nd (2 * k)) (HT.out.ps (2 * k) (by omega)).a (HX.out.1 _ (by omega)) (HT.out.ps (2 * k) (by omega)).lt)
          have HCC := Lib.hid hC
          have i32 : (2 * (k : Int)) < 32 := by omega
          have i33 : (2 * (k : Int) + 1) < 32 := by omega
          clear hC
          rcases b1 with _ | _ <;> rcases b2 with _ | _
          · go_upto_region 15 with fail
            go_roundw
            case rel => exact ⟨k + 1, by omega, by omega, Lib.hid ⟨P, n, B, HT.out, by have := HO.out.1; rw [cntD_next]; omega, fun j hj => HO.out.2 j (fun i hi => hj i (by omega))⟩⟩
            case measure => simp [intOf]; omega
          all_goals
            go_upto_region 16 with (go_at_call 46; (with_reducible refine HIP1.out.mono ?_); rintro e4 w4 ⟨v4, l4, rfl, ho4, hl4, hb4⟩)
            have hT4 := HT.out.keep hb4
            have c3' := hT4.c3
            simp only at c3'
            have hC4 := HCC.out.keep hb4
            have ld2 := hC4.ld (i := 2 * k + 1) (by omega)
            have HIP2 := Lib.hid (ipackA_is (w := w4) (x := y.nd (2 * k + 1)) (hT4.ps (2 * k + 1) (by omega)).a (HX.out.1 _ (by omega)) (hT4.ps (2 * k + 1) (by omega)).lt)
            have HO4 := Lib.hid (And.intro ho4 hl4)
            have HB4 := Lib.hid hb4
            clear hT4 hC4 ho4 hb4 ld1 l1 l2 c4 c3 HIP1
            go_upto_region 19 with (go_at_call 46; (with_reducible refine HIP2.out.mono ?_); rintro e5 w5 ⟨v5, l5, rfl, ho5, hl5, hb5⟩)
            have hB5 := HB4.out.trans (hb5.mono HB4.out.size)
            have HB5 := Lib.hid hB5.drew
            have ho5' := ho5
            unfold OB at ho5'
            rw [hl5] at ho5'
            obtain ⟨p5, cp5, e5⟩ := own_form ho5'
            subst e5
            obtain ⟨b5, o5, e5, hcl⟩ := own_cells ho5' hl5 (by decide)
            subst e5
            have ho4 := HO4.out.1.keep hb5
            have hl4 := HO4.out.2
            obtain ⟨p6, cp6, w6, hap, ho6, hb6⟩ := OB.app' (w := w5.drew) (n := 32) (c := cp5) ho4.drew (Nat.le_trans hB5.size (Nat.le_refl _)) hl5 hcl (by rw [hl4]; decide)
            rw [hl4] at hap ho6
            have hB6 : Below wr.heap.size wr w6 := hB5.drew.trans hb6
            have hT6 := HT.out.keep hB6
            have c6 := hT6.c5
            obtain ⟨k6, -, -⟩ := hT6.same hk
            simp only at c6 k6
            obtain ⟨g6, e6, hg60, hg61, hg62, hg63⟩ := own_block (show w6.ownsRow wr.heap.size 5 1 (.slice p6 64 cp6) 64 ((l4 ++ l5).map u8V) from by have := ho6; unfold OB at this; rw [List.length_append, hl4, hl5] at this; exact this) (by decide)
            subst e6
            have hl6 : (l4 ++ l5).length = 64 := by rw [List.length_append, hl4, hl5]
            obtain ⟨w7, hput, hm7, hg7⟩ := hT6.pb.put (T := 134) Tryz.underlying134 (k := (y.G k : Int)) (WalkArith.wf_i64 (by have := (HX.out.2.1 k hk).2; omega)) (show n < maxLen from by have h1 := HO.out.1; have h2 := HX.out.2.2.1; have h3 := cntD_le y k hk; unfold maxLen; omega) (g6, 0, 64, cp6)
            change (Instr.mapUpdate 134 (.map (some y.pb)) (.int .i64 (y.G k)) (.slice (some ⟨g6, 0, none⟩) 64 cp6)).run Tryz.prog _ = _ at hput
            have hI : Im (fun j => fMut c x j ∨ tMut t y j) w6 (encS (some (g6, 0, 64, cp6))) (l4 ++ l5) := ⟨by
              have := ho6.at
              exact this, fun j e q => by
              have e : g6 = j := by simpa [encS, Value.ownBlock] using e
              subst e
              rcases q with q | q
              · have := HT.out.fs.lt _ (HT.out.fs.bm _ q); have := HT.out.bl.size; omega
              · have := (HT.out.mlt (show tMut t { y with pt := P, np := n, pby := B } g6 from q)).2; omega⟩
            have hT7 := hT6.puts (fb := fun j => if j = (y.G k : Int) then l4 ++ l5 else B j) hg7 hm7 (fun q s' e => by
              by_cases e2 : q = (y.G k : Int)
              · rw [if_pos e2] at e
                injection e with e
                subst e
                right
                rw [if_pos e2]
                refine ⟨hI, hl6, ?_⟩
                have := HT.out.bl.size
                show w0.heap.size ≤ g6
                omega
              · rw [if_neg e2] at e
                left
                exact ⟨e, if_neg e2⟩)
            have HT7 := Lib.hid hT7
            have HU7 : Hid (Upd (tMut t y) w w7) := Lib.hid ((HU.out.trans (Upd.below hB6)).trans (Upd.grown hg7 (.inr (.inr (.inr (.inl rfl))))))
            have hT5 := HT.out.keep hB5.drew
            have d5 := hT5.c5
            obtain ⟨k5, -, -⟩ := hT5.same hk
            simp only at d5 k5
            have c7 := hT7.c5
            obtain ⟨k7, -, -⟩ := hT7.same hk
            simp only at c7 k7
            clear hT7 hg7 hm7 hI hT6 hB6 hb6 ho4 ho5' ho5 ho6 hT5 hB5 hb5 hcl c3' ld2 HIP2 hg60 hg61 hg62 hg63
            go_region_held3 (fun wx => wx.cell? ⟨t, 196, none⟩ = some (.map (some y.pb)) ∧ wx.cell? ⟨t, 1 + k, none⟩ = some (.int .i64 (y.G k))) (first | (with_reducible exact ⟨d5, k5⟩) | (with_reducible exact ⟨c6, k6⟩) | (with_reducible exact ⟨c7, k7⟩) | fail) (fail)
            have HQ7 : Hid (∃ P n B, TX w0 w7 c x t { y with pt := P, np := n, pby := B } ∧ n ≤ y.np + cntD y (k + 1) ∧ (∀ j, (∀ i, i < k + 1 → dirt y i = true → j ≠ (y.G i : Int)) → P j = y.pt j ∧ B j = y.pby j)) := Lib.hid ⟨_, _, _, HT7.out, by
              have h1 := HO.out.1
              have h2 : dirt y k = true := HDT.out
              rw [cntD_next, if_pos h2]
              show n + 1 ≤ _
              omega, fun j hj => by
              have hjk := hj k (by omega) HDT.out
              have := HO.out.2 j (fun i hi => hj i (by omega))
              exact ⟨(if_neg hjk).trans this.1, (if_neg hjk).trans this.2⟩⟩
            clear HT7 hap hput c6 k6 d5 k5 c7 k7
            go_wp2_with fail
            go_roundw
            case rel => exact ⟨k + 1, by omega, rfl, by go_num, HQ7, HU7⟩
            case measure => simp [intOf]; omega
        · obtain rfl : k = 16 := by omega
          have d6 := HT.out.c6
          have gn := HT.out.gn
          simp only at d6 gn
          rw [HGL.out] at gn
          obtain ⟨pg, cg, hgv⟩ := own_form gn
          obtain ⟨g, rfl, g1, g2, g3, g4⟩ := own_block (by rw [hgv] at gn; exact gn) (by simp)
          change y.gv = .slice (some ⟨g, 0, none⟩) 1 cg at hgv
          rw [hgv] at d6 gn
          have c8 : wr.cell? ⟨g, 0, none⟩ = some (.int .i64 q) := by
            obtain ⟨a', cap', e', -, -, h3⟩ := at_of_owned (f := Value.int .i64) (d := 0) (xs := [(q : Int)]) gn
            rcases h3 with h3 | ⟨b', o', rfl, -, hc⟩
            · simp at h3
            · injection e' with e' _ _
              injection e' with e'
              injection e' with e1 e2 _
              subst e1 e2
              exact hc 0 (by simp)
          have HTd := Lib.hid (HT.out.keep (Below.refl wr.heap.size wr).drew)
          have l1 := HTd.out.ldH
          have HW := Lib.hid (without_is wr.drew (h := hasT y.G) (fun j => HH.out.lone.lt _) HQ.out.2)
          have HWS : Hid (∀ w5 h', (∀ j, h' j < 256) → Below wr.drew.heap.size wr.drew w5 → (stR 111 (.pointer (some ⟨t, 17, none⟩)) (.agg (setA h'))).run Tryz.prog w5 = .ok () (w5.setRow t (putA (txR c { y with pt := P, np := n, pby := B }) 17 (setA h').toList)) ∧ TX w0 (w5.setRow t (putA (txR c { y with pt := P, np := n, pby := B }) 17 (setA h').toList)) c x t { y with pt := P, np := n, pby := B, G := ups y.G 16 32 h' }) := Lib.hid fun w5 h' hh hw => (HTd.out.keep hw).stHo hh
          simp only at l1
          generalize hXX : setA (hasT y.G) = X at l1 HW
          clear hXX gn hgv
          have y0 : IntKind.i64.wrap 0 = 0 := rfl
          have cgm : (cg : Int) ≤ 9223372036854775807 := by unfold maxLen at g4; omega
          go_wp2_with fail
          refine wp_loop_rounds 2 ?_
          rw [rounds_succ]
          go_upto_region 24 with fail
          go_region_law (go_simp; go_at_call 122; refine HW.out.mono ?_; rintro e5 w5 ⟨h', hh1, -, rfl, hb5⟩; obtain ⟨st5, hT5⟩ := HWS.out w5 h' hh1 hb5; have HT5 := Lib.hid hT5; have HB5 := Lib.hid hb5; have HH1 := Lib.hid hh1; clear hb5 hT5 hh1)
          generalize w5.setRow t (putA (txR c { y with pt := P, np := n, pby := B }) 17 (setA h').toList) = w6 at *
          have d5 := HT5.out.c5
          obtain ⟨w7, hdel, hm7, hg7⟩ := HT5.out.pb.del (T := 134) Tryz.underlying134 (k := (q : Int)) (WalkArith.wf_i64 (by have := HQ.out.2; omega)) 0
          have HT7 := Lib.hid (HT5.out.puts (fb := B) hg7 hm7 (fun p s e => by
            by_cases e2 : p = (q : Int)
            · rw [if_pos e2] at e; cases e
            · rw [if_neg e2] at e; exact .inl ⟨e, rfl⟩))
          have HKP := Lib.hid (keep_is HT7.out (show x.na + n + 4 ≤ 30 from by have := HO.out.1; have := HX.out.2.2.1; omega) (fun j h1 h4 => by
            have h0 := HO.out.2 j (fun i hi _ e => by have := (HX.out.2.1 i hi).1; omega)
            show (if j = (q : Int) then none else P j) = none
            rw [if_neg (by have := HQ.out.1; omega)]
            exact h0.1.trans (HX.out.2.2.2 j h1 h4)))
          simp only at d5 hdel
          clear hm7 hg7 HW HWS l1 st5
          go_wp2_with fail
          rw [rounds_succ]
          go_wp2_with (go_at_call 123; (with_reducible refine HKP.out.mono ?_); rintro e8 w8 ⟨rfl, ⟨y8, hP8, hF8, hD8⟩, hu8⟩)
          go_ret
          refine ⟨rfl, ⟨y8.pt, y8.np, y8.pby, ups y.G 16 32 h', ?_, fun j h1 h2 h5 => ?_, fun j hj => upH_off (.inl hj), ?_⟩, hu8⟩
          · have h1 := hP8.np
            have h2 := HO.out.1
            have h3 : y8.np ≤ n + 4 := h1
            omega
          · have h3 := hP8.off j h2
            have h4 := HO.out.2 j (fun i hi hd => h1 i hi hd)
            have h6 : y8.pt j = (if j = (q : Int) then none else P j) ∧ y8.pby j = B j := h3
            rw [if_neg h5] at h6
            exact ⟨h6.1.trans h4.1, h6.2.trans h4.2⟩
          · have e : y8 = { y with pt := y8.pt, np := y8.np, pby := y8.pby, G := ups y.G 16 32 h' } := hP8.eq
            rw [← e]
            exact hF8
end
end Go.Proofs.YtlfemcbfclallaaGreatDoor
