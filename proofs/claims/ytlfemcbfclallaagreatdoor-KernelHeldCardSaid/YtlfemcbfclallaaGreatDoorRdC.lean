/- The kernel's descriptor at Close, where another one has the file open, too. What read and write at the file "f" come to, as calls of the kernel. Who is user 0 may read and write a file of his own. A number's last eight bits. No program here. Walks of ringkeep5's good. The walks of ringkeep5's Opened, Put, Got, behind what the kernel is asked. ringkeep5's Opened, Put, Got, and a seek, over the kernel's state. -/
import Derived.Test.YtlfemcbfclallaaGreatDoorRwE
import Derived.Test.YtlfemcbfclallaaGreatDoorKfG
import Derived.Test.YtlfemcbfclallaaGreatDoorProcWalk
import Derived.Test.YtlfemcbfclallaaGreatDoorProg
import Derived.Test.YtlfemcbfclallaaGreatDoorDisk
import Derived.Test.YtlfemcbfclallaaGreatDoorHdB
import Derived.Test.YtlfemcbfclallaaGreatDoorLsB
import Derived.BigQuiet
namespace Go.Proofs.YtlfemcbfclallaaGreatDoor
open Go.RowKit
set_option linter.unusedVariables false
set_option linter.unusedSimpArgs false
def CloseTo (s : KSt) (p j k0 : Nat) : KSt := { s with fs := OpenLaw.updF s.fs k0 { s.fs k0 with n := (s.fs k0).n - 1 }, fd := OpenLaw.updN s.fd (p * 8 + j) 0 }
section
variable {w0 w : World} {k : KC} {s : KSt} {fc : FC} {x : FM} {p : Nat} {A : Array Value}
attribute [local go_sem ↓] bd_ans ld_ans st_ans ld_call ld_thg st_thg
set_option maxRecDepth 100000 in
set_option maxHeartbeats 1000000 in
theorem specC_is (h : KF w0 k s fc x) (p1 : 1 ≤ p) (p16 : p ≤ 16) {j k0 : Nat} (hj : j < 8) (hd : s.fd (p * 8 + j) = k0 + 1) {a : Int} (hF : OpenLaw.thing (s.fs k0) = .agg (thF a)) (hn : 2 ≤ (s.fs k0).n ∧ (s.fs k0).n ≤ 200) (hA : A.size = 7) (ha : A[0]? = some (.int .i64 6)) (ha1 : A[1]? = some (.int .i64 j)) :
    Spec w0 (KOutD w0.heap.size k fc s.tag x.bs (fun s' x' e a c l => e = 0 ∧ s' = CloseTo s p j k0 ∧ x' = x)) 38 #[.pointer (some ⟨k.K, 0, none⟩), .int .i64 p, .agg A] := by
  intro w h0
  obtain ⟨hb, r1, r2⟩ := alloc2f w (.cells A 37) (.cells ansZ 34)
  have d0 := cell_of_row _ w.heap.size 0 _ _ (0, 0) r1
  rw [ha] at d0
  have d1 := cell_of_row _ w.heap.size 1 _ _ (0, 0) r1
  rw [ha1] at d1
  have h01 := h0.trans (hb.mono h0.size)
  have q6 : ((w.alloc (.cells A 37)).alloc (.cells ansZ 34)).cell? ⟨k.K, 6, none⟩ = some (.pointer (some ⟨k.Fi, 0, none⟩)) := by rw [(h.keep h01).kt.kr.cell (by decide), h.kt.c6]
  have hz1 : thF a = #[.int .i64 1, .int .i64 2, .int .i64 3, .bool false, .int .i64 a] := rfl
  rw [hz1] at hF
  have HG : Hid (∀ wx, Below ((w.alloc (.cells A 37)).alloc (.cells ansZ 34)).heap.size ((w.alloc (.cells A 37)).alloc (.cells ansZ 34)) wx → Calls Tryz.prog 79 #[.pointer (some ⟨k.Fi, 0, none⟩), .int .i64 p, .int .i64 j] wx fun e w' => e = .returned (.tuple #[.agg #[.int .i64 1, .int .i64 2, .int .i64 3, .bool false, .int .i64 a], .bool false, .int .i64 0]) ∧ OpenLaw.KB k.Fi wx w' ∧ OpenLaw.OTab w' k.Fi (CloseTo s p j k0).fs (CloseTo s p j k0).fd) := Lib.hid fun wx hx => by
    have := OpenLaw.close_is ((h.keep h01).keep hx).kt.fi p1 p16 hj hd (by omega) hn.2
    rw [hF, show decide ((s.fs k0).n = 1) = false from decide_eq_false (by omega)] at this
    exact this
  have HR : Hid (Row ((w.alloc (.cells A 37)).alloc (.cells ansZ 34)) (w.heap.size + 1) 34 ansZ) := Lib.hid r2
  have HB := Lib.hid hb
  have H0 := Lib.hid h0
  have HLT : Hid (w.heap.size + 1 < ((w.alloc (.cells A 37)).alloc (.cells ansZ 34)).heap.size) := Lib.hid HR.out.lt
  have HKz := Lib.hid h
  have hFi : k.Fi < w0.heap.size := h.kt.lt (by rw [h.kt.tFi]; decide)
  have hKF : k.K ≠ k.Fi := fun e => by
    have t1 := h.kt.tK
    rw [e, h.kt.tFi] at t1
    cases t1
  clear hb r1 r2 hA ha h0 h hd hF h01 p1 p16 hj hn hz1
  have hzz : ansZ = #[.int .i64 0, .int .i64 0, .int .i64 0, .slice none 0 0, .slice none 0 0, .int .i64 0, .int .i64 0, .int .i64 0, .int .i64 0, .int .i64 0, .int .i64 0] := rfl
  rw [hzz] at d0 d1 q6 HG HB HLT
  have HR : Hid (Row ((w.alloc (.cells A 37)).alloc (.cells #[.int .i64 0, .int .i64 0, .int .i64 0, .slice none 0 0, .slice none 0 0, .int .i64 0, .int .i64 0, .int .i64 0, .int .i64 0, .int .i64 0, .int .i64 0] 34)) (w.heap.size + 1) 34 ansZ) := HR
  go_enter Tryz.func38, Tryz.ntmps38
  go_upto_region 1 with fail
  generalize (w.alloc (.cells A 37)).alloc (.cells #[.int .i64 0, .int .i64 0, .int .i64 0, .slice none 0 0, .slice none 0 0, .int .i64 0, .int .i64 0, .int .i64 0, .int .i64 0, .int .i64 0, .int .i64 0] 34) = w1 at *
  go_upto_region 7 with fail
  have hz0 := H0.out.size
  have HKK : Hid (∀ w2, Upd (fun i => i = k.Fi) w1 w2 → w2.cell? ⟨k.K, 6, none⟩ = some (.pointer (some ⟨k.Fi, 0, none⟩)) ∧ w2.cell? ⟨w.heap.size, 1, none⟩ = some (.int .i64 j)) := Lib.hid fun w2 hu => ⟨(hu.cell (World.block_lt_of_cell? w1 _ q6) hKF).trans q6, (hu.cell (World.block_lt_of_cell? w1 _ d1) (fun (e : w.heap.size = k.Fi) => by omega)).trans d1⟩
  have hbd := (Below.refl w1.heap.size w1).drew
  have hbz := Go.Joins.below_alloc1 w1 (.cells #[.int .i64 0, .int .i64 0, .int .i64 0, .bool false, .int .i64 0] 160)
  have hS1 := HKK.out _ (Upd.below hbz.drew)
  have hF1 : k.Fi ≠ w1.heap.size := by have := HLT.out; omega
  go_region_held3 (fun wx => wx.cell? ⟨k.K, 6, none⟩ = some (.pointer (some ⟨k.Fi, 0, none⟩)) ∧ wx.cell? ⟨w.heap.size, 1, none⟩ = some (.int .i64 j)) (first | exact ⟨q6, d1⟩ | exact hS1 | exact hS2 | exact hS3 | exact hS4 | assumption)
    (first | ((go_at_call 79; (with_reducible refine (HG.out w1.drew hbd).mono ?_); rintro e2 w2 ⟨rfl, hk2, hf2⟩; have hb2 : Upd (fun i => i = k.Fi) w1 w2 := (Upd.below hbd).trans (kb_upd hk2 rfl); have hb3 := hb2.trans (Upd.alloc w2 (.cells #[.int .i64 0, .int .i64 0, .int .i64 0, .bool false, .int .i64 0] 160)); have hst := st0_new w2 (T := 160) (c := #[.int .i64 0, .int .i64 0, .int .i64 0, .bool false, .int .i64 0]) (cs := #[.int .i64 1, .int .i64 2, .int .i64 3, .bool false, .int .i64 a]) rfl (by kernel_rfl) (by simp [Value.oneCell']); have hb4 := hb2.trans (Upd.alloc w2 (.cells #[.int .i64 1, .int .i64 2, .int .i64 3, .bool false, .int .i64 a] 160)); have hS2 := HKK.out w2 hb2; have hS3 := HKK.out _ hb3; have hS4 := HKK.out _ hb4; have HB4 := Lib.hid hb4; have HF4 := Lib.hid (hf2.alloc (.cells #[.int .i64 1, .int .i64 2, .int .i64 3, .bool false, .int .i64 a] 160)); have HRT := Lib.hid (row_new w2 160 #[.int .i64 1, .int .i64 2, .int .i64 3, .bool false, .int .i64 a]); clear hb2 hb3 hb4 hk2 hf2; obtain ⟨w5, hw5⟩ : ∃ w5, w5 = w2.alloc (.cells #[.int .i64 1, .int .i64 2, .int .i64 3, .bool false, .int .i64 a] 160) := ⟨_, rfl⟩; rw [← hw5] at hst hS4 HB4 HRT HF4; clear hw5)) | ((go_at_call 79; (with_reducible refine (HG.out _ hbz.drew).mono ?_); rintro e2 w2 ⟨rfl, hk2, hf2⟩; have hr2 := (row_new w1 160 #[.int .i64 0, .int .i64 0, .int .i64 0, .bool false, .int .i64 0]).drew.kept hk2 (by intro e; injection e with e; exact hF1 e.symm); have hst := hr2.st0 (cs := #[.int .i64 1, .int .i64 2, .int .i64 3, .bool false, .int .i64 a]) rfl (by kernel_rfl) (by simp [Value.oneCell']); have hb2 : Upd (fun i => i = k.Fi) w1 w2 := (Upd.below hbz.drew).trans (kb_upd hk2 rfl); have hsr : Upd (fun i => i = w1.heap.size) w2 (w2.setRow w1.heap.size #[.int .i64 1, .int .i64 2, .int .i64 3, .bool false, .int .i64 a]) := Upd.setRow _ _ rfl; have hb4 := hb2.trans' hsr (fun i hi e => by omega); have hS2 := HKK.out w2 hb2; have hS4 := HKK.out _ hb4; have HB4 := Lib.hid hb4; have HF4 := Lib.hid (hf2.upd hsr hF1); have HRT := Lib.hid (hr2.setRow #[.int .i64 1, .int .i64 2, .int .i64 3, .bool false, .int .i64 a]); clear hb2 hb4 hr2 hsr hk2 hf2; obtain ⟨w5, hw5⟩ : ∃ w5, w5 = w2.setRow w1.heap.size #[.int .i64 1, .int .i64 2, .int .i64 3, .bool false, .int .i64 a] := ⟨_, rfl⟩; rw [← hw5] at hst hS4 HB4 HRT HF4; clear hw5)))
  all_goals
    have hb5 := HB4.out
    have HR5 := Lib.hid (HR.out.upd hb5 (by omega))
    have HU5 := Lib.hid hb5
    have HL5 := Lib.hid (Nat.lt_of_lt_of_le HLT.out hb5.size)
    clear hb5 hS1 hS2 hS4 hst hbd hbz HKK HRT HB4 HG d0 d1 q6
    (try clear hS3)
    obtain ⟨hX, hone⟩ := ansN3' 0 0 0
    go_wp2_with (go_at_call 14; (with_reducible refine (fail_is _ _).mono ?_); rintro e6 v6 ⟨rfl, hb6⟩; have HB6 := Lib.hid hb6; have hr6 := HR5.out.keep hb6; have hst := ans_st hr6 hX hone; have HLD := Lib.hid (ans_ldV hr6 hX); clear hb6 hr6)
    have hu7 : Upd (fun i => i = w.heap.size + 1) v6 (v6.setRow (w.heap.size + 1) (ansV 0 0 0 (.slice none 0 0))) := Upd.setRow v6 _ rfl
    have HFIN : Hid (KF (v6.setRow (w.heap.size + 1) (ansV 0 0 0 (.slice none 0 0))) k (CloseTo s p j k0) fc x ∧ Upd (fun i => i = k.Fi ∨ w.heap.size ≤ i) w (v6.setRow (w.heap.size + 1) (ansV 0 0 0 (.slice none 0 0)))) := Lib.hid (by
      have hz : ∀ i, s.tag i ≠ 0 → i < w0.heap.size := fun i e => HKz.out.kt.lt e
      have hzz : ∀ i, x.bs i → i < w0.heap.size := HKz.out.fs.lt
      have h1 := HKz.out.keep (H0.out.trans (HB.out.mono H0.out.size))
      refine ⟨(((h1.files HF4.out HU5.out).keep HB6.out).upd hu7 (fun i hi e => by have := hz i hi; omega) (fun i hi e => by have := hzz i hi; omega)), ?_⟩
      exact ((Upd.below HB.out).trans ((HU5.out.mono fun i _ e => .inl e).trans (Upd.below HB6.out))).trans (hu7.mono fun i _ e => .inr (by omega)))
    clear hu7 hst HB6
    generalize hZ : ansV 0 0 0 (.slice none 0 0) = Z at HLD HFIN hX hone ⊢
    have HZ := Lib.hid hZ
    clear hZ
    exact bodyPost_ret (v := .agg Z) (by rw [results_cell1 rfl]; simp [asAddr, Result.andThen, HLD.out]) rfl ⟨Z, rfl, hX, hone, HFIN.out.2.mono (fun i hi e => by omega), CloseTo s p j k0, x, 0, 0, 0, .slice none 0 0, [], HFIN.out.1, fun i e => .inl e, fun i e => .inl e, by rw [HZ.out], OB.nil _ _, fun i e => (by cases e), ⟨rfl, rfl, rfl⟩, HFIN.out.2.mono fun i _ e => by
      rcases e with e | e
      · exact .inl (by rw [e, HKz.out.kt.tFi]; decide)
      · exact .inr (.inr e)⟩
end
end Go.Proofs.YtlfemcbfclallaaGreatDoor
namespace Go.Proofs.YtlfemcbfclallaaGreatDoor
open Go.RowKit
set_option linter.unusedVariables false
set_option linter.unusedSimpArgs false
section
variable {w0 : World} {k : KC} {s : KSt} {fc : FC} {x : FM} {p : Nat} {A : Array Value}
theorem spec_writeZ (h : KF w0 k s fc x) (p1 : 1 ≤ p) (p16 : p ≤ 16) {q0 : Nat} {m : Int} (hf : FileF x q0 m) (hm : 0 ≤ m ∧ m ≤ 511) {j k0 : Nat} (hj : j < 8) (hd : s.fd (p * 8 + j) = k0 + 1) (hF : OpenLaw.thing (s.fs k0) = .agg (thF 0)) (hA : A.size = 7) (hA0 : A[0]? = some (.int .i64 8)) (hA1 : A[1]? = some (.int .i64 j)) {z : List Int} {ad : Option Addr} {cp : Nat} (hA6 : A[6]? = some (.slice ad z.length cp)) (hz : At (Value.int .u8) 0 w0 (.slice ad z.length cp) z) (hz2 : z.length ≤ 256) :
    OutOk w0 (KOutD w0.heap.size k fc s.tag x.bs (fun s' x' e a b l => e = 0 ∧ a = z.length ∧ s' = SeekTo s k0 z.length ∧ FileZ x' q0 m z ∧ x'.held = x.held ∧ x'.nh = x.nh ∧ l = [])) →
    Spec w0 (KOutD w0.heap.size k fc s.tag x.bs (fun s' x' e a b l => e = 0 ∧ a = z.length ∧ s' = SeekTo s k0 z.length ∧ FileZ x' q0 m z ∧ x'.held = x.held ∧ x'.nh = x.nh ∧ l = [])) 18 #[.pointer (some ⟨k.K, 0, none⟩), .int .i64 p, .agg A] := by
  intro ok
  refine doW_is ok (.inr (.inl rfl)) hA hA0 (descW_is ok h p1 p16 hj hd hF hA hA0 hA1 ?_)
  intro w h0
  have hz0 := h0.size
  have hFi : k.Fi < w0.heap.size := h.kt.lt (by rw [h.kt.tFi]; decide)
  have hlt := h.fs.lt
  refine (kwriteZ_is (h.keep h0) p1 p16 hf hm hj hd hA1 hA6 (hz.keep h0) hz2).mono ?_
  rintro e w' ⟨rfl, x', hk, hfz, hh, hn, hu, hs⟩
  obtain ⟨hX, hone⟩ := ansN3' 0 (z.length : Int) 0
  refine ⟨_, rfl, hX, hone, hu.mono fun i hi e => ?_, SeekTo s k0 z.length, x', 0, z.length, 0, .slice none 0 0, [], hk, fun i e => .inl e, hs, rfl, OB.nil _ _, fun i e => (by cases e), ⟨rfl, rfl, rfl, hfz, hh, hn, rfl⟩, hu.mono fun i _ e => ?_⟩
  · rcases e with rfl | e | e
    · exact hFi
    · exact hlt i e
    · omega
  · rcases e with rfl | e | e
    · left; rw [h.kt.tFi]; decide
    · exact .inr (.inl e)
    · exact .inr (.inr e)
theorem spec_readZ (h : KF w0 k s fc x) (p1 : 1 ≤ p) (p16 : p ≤ 16) {q0 : Nat} {z : List Int} (hf : FileR x q0 z) (hz2 : z.length ≤ 256) {j k0 : Nat} (hj : j < 8) (hd : s.fd (p * 8 + j) = k0 + 1) {a n : Nat} (hF : OpenLaw.thing (s.fs k0) = .agg (thF a)) (hA : A.size = 7) (hA0 : A[0]? = some (.int .i64 7)) (hA1 : A[1]? = some (.int .i64 j)) (hA3 : A[3]? = some (.int .i64 n)) (ha : a ≤ 256) (hn : n ≤ 256) :
    OutOk w0 (KOutD w0.heap.size k fc s.tag x.bs (fun s' x' e c b l => e = 0 ∧ l = (z.drop a).take n ∧ c = l.length ∧ s' = SeekTo s k0 ((a + l.length : Nat) : Int) ∧ x' = x)) →
    Spec w0 (KOutD w0.heap.size k fc s.tag x.bs (fun s' x' e c b l => e = 0 ∧ l = (z.drop a).take n ∧ c = l.length ∧ s' = SeekTo s k0 ((a + l.length : Nat) : Int) ∧ x' = x)) 18 #[.pointer (some ⟨k.K, 0, none⟩), .int .i64 p, .agg A] := by
  intro ok
  refine doW_is ok (.inl rfl) hA hA0 (descR_is ok h p1 p16 hj hd hF hA hA0 hA1 ?_)
  intro w h0
  have hz0 := h0.size
  have hFi : k.Fi < w0.heap.size := h.kt.lt (by rw [h.kt.tFi]; decide)
  have hlt := h.fs.lt
  refine (kreadZ_is (h.keep h0) p1 p16 hf hz2 hj hd hA1 hA3 ha hn).mono ?_
  rintro e w' ⟨d, rfl, ho, hk, hu⟩
  obtain ⟨pd, cd, rfl⟩ := ho.form
  obtain ⟨hX, hone⟩ := ansD3 0 (((z.drop a).take n).length : Int) 0 pd ((z.drop a).take n).length cd
  refine ⟨_, rfl, hX, hone, hu.mono fun i hi e => ?_, SeekTo s k0 ((a + ((z.drop a).take n).length : Nat) : Int), x, 0, (((z.drop a).take n).length : Int), 0, _, (z.drop a).take n, hk, fun i e => .inl e, fun i e => .inl e, rfl, ho, fun i e => ?_, ⟨rfl, rfl, rfl, rfl, rfl⟩, hu.mono fun i _ e => ?_⟩
  · rcases e with rfl | e
    · exact hFi
    · omega
  · have := (ho.lt i e).1
    exact ⟨h.kt.tz i (by omega), fun q => by have := hlt i q; omega⟩
  · rcases e with rfl | e
    · left; rw [h.kt.tFi]; decide
    · exact .inr (.inr e)
theorem spec_seekZ (h : KF w0 k s fc x) (p1 : 1 ≤ p) (p16 : p ≤ 16) {j k0 : Nat} (hj : j < 8) (hd : s.fd (p * 8 + j) = k0 + 1) {a : Int} (hF : OpenLaw.thing (s.fs k0) = .agg (thF a)) (hA : A.size = 7) (hA0 : A[0]? = some (.int .i64 9)) (hA1 : A[1]? = some (.int .i64 j)) {b : Int} (hA2 : A[2]? = some (.int .i64 b)) (hb0 : 0 ≤ b ∧ b ≤ 512) :
    OutOk w0 (KOutD w0.heap.size k fc s.tag x.bs (fun s' x' e a c l => e = 0 ∧ s' = SeekTo s k0 b ∧ x' = x ∧ l = [])) →
    Spec w0 (KOutD w0.heap.size k fc s.tag x.bs (fun s' x' e a c l => e = 0 ∧ s' = SeekTo s k0 b ∧ x' = x ∧ l = [])) 18 #[.pointer (some ⟨k.K, 0, none⟩), .int .i64 p, .agg A] :=
  fun ok => doW_is ok (.inr (.inr rfl)) hA hA0 (specS_is h p1 p16 hj hd hF hA hA0 hA1 hA2 hb0)
end
end Go.Proofs.YtlfemcbfclallaaGreatDoor


namespace Go.Proofs.YtlfemcbfclallaaGreatDoor
set_option linter.unusedSimpArgs false
open Go.RowKit
set_option linter.unusedVariables false
def firstBad : List Int → Int → Int
  | [], _ => -1
  | e :: t, i => if e = 0 then firstBad t (i + 1) else i
theorem firstBad_ge (l : List Int) : ∀ i, 0 ≤ i → (0 ≤ firstBad l i ↔ l.all (· == 0) = false) ∧ -1 ≤ firstBad l i := by
  induction l with
  | nil => intro i hi; simp [firstBad]
  | cons e t ih =>
    intro i hi
    simp only [firstBad]
    by_cases h : e = 0
    · rw [if_pos h]
      have := ih (i + 1) (by omega)
      simpa [h] using this
    · rw [if_neg h]
      simp [h]
      omega
theorem firstBad_skip (l : List Int) : ∀ (k : Nat) (i : Int), k ≤ l.length → (∀ j, j < k → l.getD j 0 = 0) → firstBad l i = firstBad (l.drop k) (i + k) := by
  induction l with
  | nil => intro k i hk _; simp at hk; subst hk; simp
  | cons e t ih =>
    intro k i hk h
    cases k with
    | zero => simp
    | succ k =>
      have h0 := h 0 (by omega)
      simp at h0
      simp only [firstBad, if_pos h0, List.drop_succ_cons]
      rw [ih k (i + 1) (by simpa using hk) (fun j hj => by simpa using h (j + 1) (by omega))]
      congr 1; omega
theorem bad_any (e : Int) (w : World) : Calls Tryz.prog 20 #[.int .i64 e] w fun r w' => r = .returned (.bool (e != 0)) ∧ w = w' := by
  go_enter Tryz.func20, Tryz.ntmps20
  go_wp2
  go_ret
  exact ⟨rfl, rfl⟩
theorem indexBad_any (b cap : Nat) (l : List Int) (w : World) (hl : l.length ≤ 4294967296) (hc : ∀ i, i < l.length → w.cell? ⟨b, i, none⟩ = some (.int .i64 (l.getD i 0))) :
    Calls Tryz.prog 41 #[.slice (some ⟨b, 0, none⟩) l.length cap, .func (.func 20) #[] #[]] w fun e w' => e = .returned (.int .i64 (firstBad l 0)) ∧ w = w' := by
  obtain ⟨n, hn⟩ : ∃ n, n = l.length := ⟨_, rfl⟩
  have HC := Lib.hid hc
  have HN := Lib.hid hn
  rw [← hn] at hl ⊢
  clear hc hn
  go_enter Tryz.func41, Tryz.ntmps41
  go_wp2_with fail
  go_loop [8] (fun i => ∃ k : Nat, k ≤ n ∧ i = .int .i64 k ∧ Hid (∀ j, j < k → l.getD j 0 = 0)) (fun i => n - (intOf i).toNat)
  case atStart => exact ⟨0, Nat.zero_le _, rfl, fun j hj => absurd hj (Nat.not_lt_zero _)⟩
  case round =>
    obtain ⟨k, hk, rfl, HM⟩ := hrel
    by_cases hlt : k < n
    · obtain ⟨x, hx⟩ : ∃ x, x = l.getD k 0 := ⟨_, rfl⟩
      have g1 := HC.out k (by rw [← HN.out]; exact hlt)
      rw [← hx] at g1
      have HX := Lib.hid hx
      clear hx
      by_cases hz : x = 0
      · have hb : (x != 0) = false := by simp [hz]
        have HZ := Lib.hid hz
        clear hz
        go_wp2_with (go_at_call 20; refine (bad_any _ _).mono ?_; rintro e w' ⟨rfl, rfl⟩)
        go_round
        case rel => exact ⟨k + 1, by omega, by go_num, fun j hj => by
          rcases Nat.lt_succ_iff_lt_or_eq.1 hj with h | rfl
          · exact HM.out j h
          · rw [← HX.out]; exact HZ.out⟩
        case measure => simp [intOf]; omega
      · have hb : (x != 0) = true := by simp [hz]
        have HZ := Lib.hid hz
        clear hz
        go_wp2_with (go_at_call 20; refine (bad_any _ _).mono ?_; rintro e w' ⟨rfl, rfl⟩)
        go_ret
        refine ⟨ret_int ?_, rfl⟩
        rw [firstBad_skip l k 0 (by rw [← HN.out]; omega) HM.out, List.drop_eq_getElem_cons (by rw [← HN.out]; exact hlt), firstBad, if_neg]
        · omega
        · have := HX.out
          simp only [List.getD, List.getElem?_eq_getElem (show k < l.length by rw [← HN.out]; exact hlt), Option.getD_some] at this
          rw [← this]; exact HZ.out
    · obtain rfl : k = n := by omega
      go_wp2_with fail
      go_ret
      refine ⟨ret_int ?_, rfl⟩
      rw [firstBad_skip l k 0 (by rw [← HN.out]; omega) HM.out, List.drop_of_length_le (by rw [← HN.out]; omega)]
      rfl
theorem good_any (b cap : Nat) (l : List Int) (w : World) (hl : l.length ≤ 4294967296) (hc : ∀ i, i < l.length → w.cell? ⟨b, i, none⟩ = some (.int .i64 (l.getD i 0))) :
    Calls Tryz.prog 8 #[.slice (some ⟨b, 0, none⟩) l.length cap] w fun e w' => e = .returned (.bool (l.all (· == 0))) ∧ w = w' := by
  have HI := Lib.hid (indexBad_any b cap l w hl hc)
  obtain ⟨f, hf⟩ : ∃ f, f = firstBad l 0 := ⟨_, rfl⟩
  have hfb := firstBad_ge l 0 (by omega)
  rw [← hf] at HI hfb
  obtain ⟨h1, h2⟩ := hfb
  clear hc hf
  obtain ⟨n, hn⟩ : ∃ n, n = l.length := ⟨_, rfl⟩
  rw [← hn] at HI ⊢
  clear hn hl
  cases hg : l.all (· == 0)
  · have hf0 : 0 ≤ f := h1.2 hg
    clear h1 hg
    go_enter Tryz.func8, Tryz.ntmps8
    go_wp2_with (first | (go_at_call 19; go_in) | (go_at_call 41; refine HI.out.mono ?_; rintro e w' ⟨rfl, rfl⟩))
    go_ret
    exact ⟨rfl, rfl⟩
  · have hf0 : f < 0 := by
      rcases Int.lt_or_le f 0 with h | h
      · exact h
      · have := h1.1 h; rw [hg] at this; cases this
    clear h1 hg
    go_enter Tryz.func8, Tryz.ntmps8
    go_wp2_with (first | (go_at_call 19; go_in) | (go_at_call 41; refine HI.out.mono ?_; rintro e w' ⟨rfl, rfl⟩))
    go_ret
    exact ⟨ret_bool (by simp; omega), rfl⟩
end Go.Proofs.YtlfemcbfclallaaGreatDoor
namespace Go.Proofs.YtlfemcbfclallaaGreatDoor
open Go.RowKit
set_option linter.unusedVariables false
set_option linter.unusedSimpArgs false
def callO (B : Int) (nm : ByteArray) : Array Value := #[.int .i64 5, .int .i64 3, .int .i64 B, .int .i64 420, .string nm, .string ByteArray.empty, .slice none 0 0]
def callP (fd : Int) (ad : Option Addr) (L cp : Nat) : Array Value := #[.int .i64 8, .int .i64 fd, .int .i64 0, .int .i64 0, .string ByteArray.empty, .string ByteArray.empty, .slice ad L cp]
theorem bdc_O (w : World) (B : Int) (nm : ByteArray) : (bdC #[(0, .int .i64 5), (4, .string nm), (1, .int .i64 3), (2, .int .i64 B), (3, .int .i64 420)]).run Tryz.prog w = .ok (.agg (callO B nm)) w := by kernel_rfl
theorem bdc_P (w : World) (fd : Int) (ad : Option Addr) (L cp : Nat) : (bdC #[(0, .int .i64 8), (1, .int .i64 fd), (6, .slice ad L cp)]).run Tryz.prog w = .ok (.agg (callP fd ad L cp)) w := by kernel_rfl
theorem bdc_G (w : World) (fd n : Int) : (bdC #[(0, .int .i64 7), (1, .int .i64 fd), (3, .int .i64 n)]).run Tryz.prog w = .ok (.agg (callA 7 fd 0 n)) w := by kernel_rfl
theorem ans_newD (w : World) (e a b : Int) (p : Option Addr) (n c : Nat) : (stR 34 (.pointer (some ⟨w.heap.size, 0, none⟩)) (.agg (ansV e a b (.slice p n c)))).run Tryz.prog (w.alloc (.cells #[.int .i64 0, .int .i64 0, .int .i64 0, .slice none 0 0, .slice none 0 0, .int .i64 0, .int .i64 0, .int .i64 0, .int .i64 0, .int .i64 0, .int .i64 0] 34)) = .ok () (w.alloc (.cells (ansV e a b (.slice p n c)) 34)) := st0_new w rfl (by kernel_rfl) (ansV_one _ _ _ rfl)
section
variable {w : World} {K : Nat} {p : Int} {P : World → Nat → Prop}
attribute [local go_sem ↓] ld_ans st_ans bd_call
set_option maxRecDepth 100000 in
set_option maxHeartbeats 1000000 in
theorem opened_is {B : Int} {nm : ByteArray} (hs : Calls Tryz.prog 7 #[.pointer (some ⟨K, 0, none⟩), .int .i64 p, .agg (callO B nm)] w fun e2 w' => ∃ (j : Nat) (b : Int) (pd : Option Addr) (m cd : Nat), e2 = .returned (.agg (ansV 0 j b (.slice pd m cd))) ∧ P (w'.alloc (.cells (ansV 0 j b (.slice pd m cd)) 34)) j) :
    Calls Tryz.prog 5 #[.pointer (some ⟨K, 0, none⟩), .int .i64 p, .string nm, .int .i64 B] w fun e w' => ∃ j : Nat, e = .returned (.int .i64 j) ∧ P w' j := by
  have hbd := bdc_O
  have HS := Lib.hid hs
  clear hs
  go_enter Tryz.func5, Tryz.ntmps5
  go_upto_region 2 with (go_at_call 7; refine HS.out.mono ?_; rintro e4 w4 ⟨j, b, pd, m, cd, rfl, hP⟩; have hst := ans_newD w4 0 j b pd m cd; have HP := Lib.hid hP; clear hP)
  have r0 := ((row_new w4 34 (ansV 0 j b (.slice pd m cd))).cell 0).trans (show (ansV 0 j b (.slice pd m cd))[0]? = some (.int .i64 0) from rfl)
  have r1 := ((row_new w4 34 (ansV 0 j b (.slice pd m cd))).cell 1).trans (show (ansV 0 j b (.slice pd m cd))[1]? = some (.int .i64 j) from rfl)
  clear hst
  generalize w4.alloc (.cells (ansV 0 j b (.slice pd m cd)) 34) = w5 at *
  go_wp2_with fail
  go_ret
  exact ⟨j, rfl, HP.out⟩
set_option maxRecDepth 100000 in
set_option maxHeartbeats 1000000 in
theorem put_is {P : World → Prop} {fd : Int} {ad : Option Addr} {L cp : Nat} (hs : Calls Tryz.prog 7 #[.pointer (some ⟨K, 0, none⟩), .int .i64 p, .agg (callP fd ad L cp)] w fun e2 w' => ∃ (b : Int) (pd : Option Addr) (m cd : Nat), e2 = .returned (.agg (ansV 0 L b (.slice pd m cd))) ∧ P (w'.alloc (.cells (ansV 0 L b (.slice pd m cd)) 34))) :
    Calls Tryz.prog 6 #[.pointer (some ⟨K, 0, none⟩), .int .i64 p, .int .i64 fd, .slice ad L cp] w fun e w' => e = .returned (.bool true) ∧ P w' := by
  have hbd := bdc_P
  have HS := Lib.hid hs
  clear hs
  go_enter Tryz.func6, Tryz.ntmps6
  go_upto_region 2 with (go_at_call 7; refine HS.out.mono ?_; rintro e4 w4 ⟨b, pd, m, cd, rfl, hP⟩; have hst := ans_newD w4 0 L b pd m cd; have HP := Lib.hid hP; clear hP)
  have r0 := ((row_new w4 34 (ansV 0 L b (.slice pd m cd))).cell 0).trans (show (ansV 0 L b (.slice pd m cd))[0]? = some (.int .i64 0) from rfl)
  have r1 := ((row_new w4 34 (ansV 0 L b (.slice pd m cd))).cell 1).trans (show (ansV 0 L b (.slice pd m cd))[1]? = some (.int .i64 L) from rfl)
  clear hst
  generalize w4.alloc (.cells (ansV 0 L b (.slice pd m cd)) 34) = w5 at *
  go_wp2_with fail
  go_ret
  exact ⟨rfl, HP.out⟩
set_option maxRecDepth 100000 in
set_option maxHeartbeats 1000000 in
theorem got_is {P : World → Value → Prop} {fd n : Int} (hs : Calls Tryz.prog 7 #[.pointer (some ⟨K, 0, none⟩), .int .i64 p, .agg (callA 7 fd 0 n)] w fun e2 w' => ∃ (a b : Int) (pd : Option Addr) (m cd : Nat), e2 = .returned (.agg (ansV 0 a b (.slice pd m cd))) ∧ P (w'.alloc (.cells (ansV 0 a b (.slice pd m cd)) 34)) (.slice pd m cd)) (hP : ∀ w w' v, P w v → Below w.heap.size w w' → P w' v) :
    Calls Tryz.prog 9 #[.pointer (some ⟨K, 0, none⟩), .int .i64 p, .int .i64 fd, .int .i64 n] w fun e w' => ∃ pd m cd, e = .returned (.tuple #[.slice pd m cd, .int .i64 0]) ∧ P w' (.slice pd m cd) := by
  have hbd := bdc_G
  have HS := Lib.hid hs
  have HPP := Lib.hid hP
  clear hs hP
  go_enter Tryz.func9, Tryz.ntmps9
  go_upto_region 2 with (go_at_call 7; refine HS.out.mono ?_; rintro e4 w4 ⟨a, b, pd, m, cd, rfl, hP⟩; have hst := ans_newD w4 0 a b pd m cd; have HP := Lib.hid hP; clear hP)
  have r0 := ((row_new w4 34 (ansV 0 a b (.slice pd m cd))).cell 0).trans (show (ansV 0 a b (.slice pd m cd))[0]? = some (.int .i64 0) from rfl)
  have r3 := ((row_new w4 34 (ansV 0 a b (.slice pd m cd))).cell 3).trans (show (ansV 0 a b (.slice pd m cd))[3]? = some (.slice pd m cd) from rfl)
  clear hst
  generalize w4.alloc (.cells (ansV 0 a b (.slice pd m cd)) 34) = w5 at *
  go_quiet (fail)
  go_wp2_with fail
  go_ret2
  exact ⟨pd, m, cd, rfl, HPP.out _ _ _ HP.out (below_drewN (Below.refl _ _) _)⟩
end
end Go.Proofs.YtlfemcbfclallaaGreatDoor
namespace Go.Proofs.YtlfemcbfclallaaGreatDoor
open Go.RowKit
set_option linter.unusedVariables false
set_option linter.unusedSimpArgs false
section
variable {w0 w : World} {k : KC} {s : KSt} {fc : FC} {x : FM} {l : List (Nat × Array Value)} {a : Option Addr} {cap gc cc : Nat}
theorem openN_ask (h : ED w0 w k s fc x l) (haw : Awake s 1) (q : Who w s 1 0 127 a cap gc cc) {q0 : Nat} (hr : Root0 x q0) (hna : x.na ≤ 2) (hh : x.nh < 1000 ∧ hcn (x.held 2) < 1000) (hf1 : ∃ j, j < 8 ∧ s.fd (1 * 8 + j) = 0) (hf2 : ∃ k0, k0 < 32 ∧ (s.fs k0).n = 0) (hg1 : ¬ x.bs gc) (hg2 : gc ≠ k.Fi) :
    Calls Tryz.prog 5 #[.pointer (some ⟨k.K, 0, none⟩), .int .i64 1, .string ⟨#[102]⟩, .int .i64 1] w fun e w' => ∃ j : Nat, e = .returned (.int .i64 j) ∧ ∃ k0 x1 rows, ED w0 w' k (OpenTo s 1 3 j k0) fc x1 rows ∧ j < 8 ∧ k0 < 32 ∧ FileF x1 q0 420 ∧ x1.nh = x.nh + 1 ∧ x1.held 2 = some (hcn (x.held 2)) := by
  refine opened_is (K := k.K) (p := 1) (B := 1) (nm := ⟨#[102]⟩) (P := fun w' j => ∃ k0 x1 rows, ED w0 w' k (OpenTo s 1 3 j k0) fc x1 rows ∧ j < 8 ∧ k0 < 32 ∧ FileF x1 q0 420 ∧ x1.nh = x.nh + 1 ∧ x1.held 2 = some (hcn (x.held 2))) ?_
  refine (h.ask (p := 1) (A := callO 1 ⟨#[102]⟩) haw rfl (fun ok => doD_is ok rfl rfl rfl (descO_is ok rfl rfl rfl (specF_D (spec_openN (A := callO 1 ⟨#[102]⟩) h.kf q (by decide) hr hna (m := 420) (by decide) rfl rfl rfl rfl rfl hh hf1 hf2 hg1 hg2))))).mono ?_
  rintro e2 w' ⟨s', x', e, a2, b, d, dl, he2, ⟨hl, g, he0, j, k0, hj, hk0, hs', hf, hnh, hhd, hg, ha2⟩, hO, he, hd, hft, hbs, hU⟩
  obtain ⟨pd, cd, hdv⟩ := hO.form
  subst he0
  subst hs'
  subst ha2
  subst hdv
  exact ⟨j, b, pd, dl.length, cd, he2, k0, x', _, he, hj, hk0, hf, hnh, hhd⟩
theorem put_ask (h : ED w0 w k s fc x l) (haw : Awake s 1) {q0 : Nat} (hf : FileF x q0 420) {j k0 : Nat} (hj : j < 8) (hd : s.fd (1 * 8 + j) = k0 + 1) (hF : OpenLaw.thing (s.fs k0) = .agg (thF 0)) {z : List Int} {ad : Option Addr} {L cp : Nat} (hL : L = z.length) (hz : At (Value.int .u8) 0 w (.slice ad L cp) z) (hz2 : z.length ≤ 256) :
    Calls Tryz.prog 6 #[.pointer (some ⟨k.K, 0, none⟩), .int .i64 1, .int .i64 j, .slice ad L cp] w fun e w' => e = .returned (.bool true) ∧ ∃ x2 rows, ED w0 w' k (SeekTo s k0 z.length) fc x2 rows ∧ FileZ x2 q0 420 z ∧ x2.nh = x.nh ∧ x2.held = x.held := by
  subst hL
  refine put_is (K := k.K) (p := 1) (fd := (j : Int)) (P := fun w' => ∃ x2 rows, ED w0 w' k (SeekTo s k0 z.length) fc x2 rows ∧ FileZ x2 q0 420 z ∧ x2.nh = x.nh ∧ x2.held = x.held) ?_
  have hs := spec_writeZ (A := callP j ad z.length cp) h.kf (by decide) (by decide) hf (by decide) hj hd hF rfl rfl rfl rfl hz hz2
  refine (h.ask (p := 1) (A := callP j ad z.length cp) haw rfl hs).mono ?_
  rintro e2 w' ⟨s', x', e, a2, b, d, dl, he2, ⟨he0, ha2, hs', hfz, hh, hn, hl⟩, hO, he, hdd, hft, hbs, hU⟩
  obtain ⟨pd, cd, hdv⟩ := hO.form
  subst he0
  subst ha2
  subst hs'
  subst hdv
  exact ⟨b, pd, dl.length, cd, he2, x', _, he, hfz, hn, hh⟩
end
end Go.Proofs.YtlfemcbfclallaaGreatDoor
