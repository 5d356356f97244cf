/- The walk of fs.Format. The walks of fs.Sync, journal.Commit where nothing is to be written. The walk of boot.Make where no file is laid. -/
import Derived.Test.YtnbhohaphmilmaaGreatDoorFmtP
import Derived.Test.YtnbhohaphmilmaaGreatDoorInode3
import Derived.Laws.IdiomRangeMap
namespace Go.Proofs.YtnbhohaphmilmaaGreatDoor
open Go.RowKit
set_option linter.unusedVariables false
set_option linter.unusedSimpArgs false
/-- a disk that is written -/
structure WS (w0 w : World) (D sb nb : Nat) (wv : Value) (m : Nat) (f : List Int) : Prop where
  d : Dk w D sb nb wv m 64 (zeros 4096) f
  u : Upd (fun k => k = D ∨ k = sb ∨ k = nb) w0 w
  o : ∀ g, wv.ownBlock = some g → w0.heap.size ≤ g
  l : D < w0.heap.size ∧ sb < w0.heap.size ∧ nb < w0.heap.size
/-- bytes that lie apart from it -/
structure KO (w0 w : World) (wv v : Value) (l : List Int) : Prop where
  a : At (Value.int .u8) 0 w v l
  b : ∀ a n c, v = .slice (some a) n c → w0.heap.size ≤ a.block ∧ a.block < w.heap.size ∧ wv.ownBlock ≠ some a.block
theorem At.upd {S : Nat → Prop} {w w' : World} {v : Value} {l : List Int} (h : At (Value.int .u8) 0 w v l) (hu : Upd S w w') (hn : ∀ a n c, v = .slice (some a) n c → ¬ S a.block) : At (Value.int .u8) 0 w' v l := by
  obtain ⟨a, cap, rfl, h1, h2, h3⟩ := h
  refine ⟨a, cap, rfl, h1, h2, ?_⟩
  rcases h3 with h3 | ⟨b, off, rfl, hlt, hc⟩
  · exact .inl h3
  · exact .inr ⟨b, off, rfl, Nat.lt_of_lt_of_le hlt hu.size, fun i hi => (hu.cell hlt (hn _ _ _ rfl)).trans (hc i hi)⟩
section
variable {w0 w w' : World} {D sb nb m : Nat} {wv v : Value} {f l : List Int}
theorem WS.keep (h : WS w0 w D sb nb wv m f) (hb : Below w.heap.size w w') : WS w0 w' D sb nb wv m f := ⟨h.d.keep hb, h.u.trans (Upd.below hb), h.o, h.l⟩
theorem KO.keep (h : KO w0 w wv v l) (hb : Below w.heap.size w w') : KO w0 w' wv v l := ⟨h.a.keep hb, fun a n c e => by
  obtain ⟨h1, h2, h3⟩ := h.b a n c e
  exact ⟨h1, Nat.lt_of_lt_of_le h2 hb.size, h3⟩⟩
theorem KO.write (h : KO w0 w wv v l) (hs : WS w0 w D sb nb wv m f) {wv' : Value} (hu : Upd (Dset D sb nb wv) w w') (hf : wv'.ownBlock = wv.ownBlock ∨ ∃ g, w.heap.size ≤ g ∧ wv'.ownBlock = some g) : KO w0 w' wv' v l := by
  have hl := hs.l
  refine ⟨h.a.upd hu (fun a n c e => ?_), fun a n c e => ?_⟩
  · obtain ⟨h1, h2, h3⟩ := h.b a n c e
    rintro (e | e | e | e)
    · omega
    · omega
    · omega
    · exact h3 e
  · obtain ⟨h1, h2, h3⟩ := h.b a n c e
    refine ⟨h1, Nat.lt_of_lt_of_le h2 hu.size, ?_⟩
    rcases hf with e | ⟨g, hg, e⟩
    · rw [e]; exact h3
    · rw [e]; intro e2; injection e2 with e2; omega
theorem KO.fresh {w1 w2 : World} {B : Nat} (hs : WS w0 w1 D sb nb wv m f) (hB : w1.heap.size ≤ B) (ho : OB B w2 v l) : KO w0 w2 wv v l := ⟨ho.at, fun a n c e => by
  subst e
  obtain ⟨h1, h2⟩ := ho.lt a.block rfl
  have h3 := hs.u.size
  refine ⟨by omega, h2, fun e => ?_⟩
  obtain ⟨xs, hx⟩ := hs.d.own
  have := (hx.lt _ e).2
  omega⟩
theorem KO.part (h : KO w0 w wv v l) {b o n c : Nat} (hv : v = .slice (some ⟨b, o, none⟩) n c) (hl : l.length = 192) {k : Nat} (hk : k + 64 ≤ 192) : KO w0 w wv (.slice (some ⟨b, o + k, none⟩) 64 (c - k)) ((l.drop k).take 64) := by
  subst hv
  obtain ⟨a', cap', e1, e2, e3, e4⟩ := h.a
  injection e1 with e1 e5 e6
  subst e6
  subst e5
  have hl2 : ((l.drop k).take 64).length = 64 := by rw [List.length_take, List.length_drop, hl]; omega
  refine ⟨⟨_, _, by rw [hl2], by rw [hl2]; omega, by omega, ?_⟩, fun a n' c' e => ?_⟩
  · rcases e4 with e4 | ⟨b', o', g1, g2, g3⟩
    · rw [e4] at hl; cases hl
    · rw [g1] at e1
      injection e1 with e1
      injection e1 with e1 e7 _
      subst e1
      subst e7
      refine .inr ⟨b, o + k, rfl, g2, fun i hi => ?_⟩
      rw [hl2] at hi
      rw [show o + k + i = o + (k + i) by omega, g3 (k + i) (by omega)]
      simp [List.getD_eq_getElem?_getD, List.getElem?_take, List.getElem?_drop, hi]
  · injection e with e _ _
    injection e with e
    subst e
    exact h.b ⟨b, o, none⟩ _ _ rfl
/-- what a write leaves -/
def WP (w0 w : World) (D sb nb : Nat) (wv : Value) (m : Nat) (f : List Int) (k : Nat) (l : List Int) (e : Ending) (w' : World) : Prop :=
  e = .returned (.int .i64 0) ∧ ∃ wv', WS w0 w' D sb nb wv' (m + 1) (putS f k l) ∧ (∀ v2 l2, KO w0 w wv v2 l2 → KO w0 w' wv' v2 l2)
theorem WS.write (h : WS w0 w D sb nb wv m f) {k : Nat} (hk : k < 64) (hl : l.length = 64) (hv : KO w0 w wv v l) (hm : m ≤ 100000) : Calls Tryz.prog 55 #[.pointer (some ⟨D, 0, none⟩), .int .i64 k, v] w (WP w0 w D sb nb wv m f k l) := by
  refine (write_is h.d hk hl hv.a hm (fun a n c e => ?_)).mono ?_
  · obtain ⟨h1, h2, h3⟩ := hv.b a n c e
    have := h.l
    rintro (e | e | e | e)
    · omega
    · omega
    · omega
    · exact h3 e
  · rintro e w' ⟨rfl, wv', hd, hu, hf⟩
    refine ⟨rfl, wv', ⟨hd, h.u.trans' hu ?_, ?_, h.l⟩, fun v2 l2 hk2 => hk2.write h hu hf⟩
    · rintro i hi (e | e | e | e)
      · exact .inl e
      · exact .inr (.inl e)
      · exact .inr (.inr e)
      · have := h.o i e; omega
    · intro g hg
      rcases hf with e | ⟨g', hg', e⟩
      · exact h.o g (by rw [← e]; exact hg)
      · rw [e] at hg; injection hg with hg; have := h.u.size; omega
end
/-- the forest behind i rounds -/
def gfI : Nat → Nat → Nat
  | 0 => fun _ => 0
  | i + 1 => ups (up (gfI i) i (37 + i)) 16 32 (bitOn (fun j => up (gfI i) i (37 + i) (16 + j)) (37 + i))
theorem gfI_all : ∀ j, j < 192 → gfI 16 j = gF j := by decide +kernel
theorem up_lt {G : Nat → Nat} (h : ∀ j, G j < 256) {x : Nat} (hx : x < 256) (k : Nat) : ∀ j, up G k x j < 256 := fun j => by unfold up; split; exact hx; exact h j
theorem gfI_lt : ∀ i, i ≤ 16 → ∀ j, gfI i j < 256
  | 0, _, j => by unfold gfI; decide
  | i + 1, hi, j => by
    have h1 := up_lt (gfI_lt i (by omega)) (show 37 + i < 256 by omega) i
    unfold gfI ups
    split
    · exact bitOn_lt (fun j => h1 (16 + j)) _ _
    · exact h1 j
theorem fV0 {i : Nat} (hi : i < 16) (x : Nat) : fV i x = .int .i64 x := by unfold fV; rw [if_pos (by omega)]
theorem st_set0 {w : World} {F : Nat} {G h : Nat → Nat} (hr : Row w F 148 (forA G)) : (stR 144 (.pointer (some ⟨F, 16, none⟩)) (.agg (setA h))).run Tryz.prog w = .ok () (w.setRow F (forA (ups G 16 32 h))) := by
  have e := forA_put G h (k := 0) (by decide)
  simp only [Nat.zero_mul, Nat.zero_add] at e
  rw [hr.st (o := 16) (by rw [setA_size, forA_size]; decide) (by rw [setA_size]; kernel_rfl) (setA_one _), e]
/-- the first sectors behind i writes -/
def f3 : Nat → List Int
  | 0 => zeros 4096
  | i + 1 => putS (f3 i) (1 + i) (((pkS gF 4).drop (64 * i)).take 64)
theorem fmt_f3 : fmtL = putS (putS (f3 3) 37 (rootL ++ zeros 32)) 0 markL := by
  rw [f3, f3, f3, f3]
  unfold fmtL
  rw [Nat.mul_zero, show 64 * 1 = 64 from rfl, show 64 * 2 = 128 from rfl]
attribute [local go_sem ↓] ld_set st_set ld_for st_for mkB_eq appZ_eq
section
variable {w : World} {D sb nb : Nat}
set_option maxRecDepth 100000 in
set_option maxHeartbeats 1000000 in
theorem format_is (h : Dk w D sb nb (.slice none 0 0) 0 64 (zeros 4096) (zeros 4096)) : Calls Tryz.prog 22 #[.pointer (some ⟨D, 0, none⟩)] w fun e w' => e = .returned (.int .i64 0) ∧ Dk w' D sb nb (.slice none 0 0) 0 64 fmtL fmtL ∧ Upd (fun k => k = D ∨ k = sb ∨ k = nb) w w' := by
  have hz : Tryz.zeroCells148 = forA (fun _ => 0) := by kernel_rfl
  have HSZ := Lib.hid (size_is h)
  have hmk := mkB64 w
  have hbk := bk_new w (zeros 64)
  have hal := Go.Joins.below_alloc1 w (.cells ((zeros 64).map u8V).toArray 5)
  have HW0 : Hid (WS w (w.alloc (.cells ((zeros 64).map u8V).toArray 5)) D sb nb (.slice none 0 0) 0 (zeros 4096)) := Lib.hid ⟨h.keep hal, Upd.below hal, fun g hg => by simp [Value.ownBlock] at hg, h.lt, h.sB.lt, h.nB.lt⟩
  have HK0 : Hid (KO w (w.alloc (.cells ((zeros 64).map u8V).toArray 5)) (.slice none 0 0) (.slice (some ⟨w.heap.size, 0, none⟩) 64 64) (zeros 64)) := Lib.hid ⟨at_new w (zeros 64) 5 (by decide), fun a n c e => by
    injection e with e1 _ _
    injection e1 with e1
    subst e1
    exact ⟨Nat.le_refl _, hbk.lt, by simp [Value.ownBlock]⟩⟩
  have HSZ1 := Lib.hid (size_is (h.keep hal))
  clear h hbk hal
  generalize w.alloc (.cells ((zeros 64).map u8V).toArray 5) = w1 at *
  go_enter Tryz.func22, Tryz.ntmps22
  go_upto_region 5 with (first | (go_at_call 54; refine HSZ.out.mono ?_; rintro e1 w2 ⟨rfl, rfl⟩) | (go_at_call 54; refine HSZ1.out.mono ?_; rintro e1 w2 ⟨rfl, rfl⟩))
  go_loopw [18] (fun kv wr => ∃ k wv, k ≤ 64 ∧ kv = .int .i64 (k : Nat) ∧ Hid (WS w wr D sb nb wv k (zeros 4096)) ∧ Hid (KO w wr wv (.slice (some ⟨w.heap.size, 0, none⟩) 64 64) (zeros 64))) (fun kv _ => 64 - (intOf kv).toNat)
  case atStart => exact ⟨0, _, by omega, rfl, HW0, HK0⟩
  case round =>
    clear HW0 HK0 HSZ HSZ1 hmk
    obtain ⟨k, wv, hk0, rfl, HW, HK⟩ := hrel
    by_cases hk : k < 64
    · have i0 : (0 : Int) ≤ k := by omega
      have i1 : (k : Int) < 64 := by omega
      have HWR := Lib.hid (HW.out.write hk (zeros_len 64) HK.out (by omega))
      go_wp2_with (go_at_call 55; refine HWR.out.mono ?_; rintro e2 w2 ⟨rfl, wv2, hw2, hk2⟩; have HW2 := Lib.hid hw2; have HK2 := Lib.hid (hk2 _ _ HK.out); clear hw2 hk2)
      go_roundw
      case rel => exact ⟨k + 1, wv2, by omega, by go_num, Lib.hid (by have := HW2.out; rw [put_zeros k hk] at this; exact this), HK2⟩
      case measure => simp [intOf]; omega
    · obtain rfl : k = 64 := by omega
      rw [show ((64 : Nat) : Int) = 64 from rfl]
      clear HK
      go_upto_region 10 with fail
      have HR1 : Hid (Row (wr.alloc (.cells (forA (fun _ => 0)) 148)) wr.heap.size 148 (forA (gfI 0))) := Lib.hid (row_new wr _ _)
      have HB1 := Lib.hid (Go.Joins.below_alloc1 wr (.cells (forA (fun _ => 0)) 148))
      generalize wr.alloc (.cells (forA (fun _ => 0)) 148) = w1 at *
      clear hz
      go_wp2_with fail
      have HWW : Hid (WS w wr D sb nb wv 64 (zeros 4096)) := HW
      clear HW
      rename_i wr0
      generalize hwr : wr = wf at *
      clear hwr
      go_loopw [26] (fun iv wr => ∃ i, i ≤ 16 ∧ iv = .int .i64 (i : Nat) ∧ Hid (Below wf.heap.size wf wr) ∧ Hid (Row wr wf.heap.size 148 (forA (gfI i)))) (fun iv _ => 16 - (intOf iv).toNat)
      case atStart => exact ⟨0, by omega, rfl, HB1, HR1⟩
      case round =>
        clear HB1 HR1
        obtain ⟨i, hi0, rfl, HB, HR⟩ := hrel
        by_cases hi : i < 16
        · have j0 : (0 : Int) ≤ i := by omega
          have j1 : (i : Int) < 16 := by omega
          have hcF := HR.out.cell i
          rw [forA_get _ (by omega), fV0 hi] at hcF
          have hfF := HR.out.fz i
          have hv : (((37 + i : Nat) : Nat) : Int) = 37 + (i : Int) := by omega
          have HR2 : Hid (Row (wr.setCell ⟨wf.heap.size, i, none⟩ (.int .i64 (37 + (i : Int)))) wf.heap.size 148 (forA (up (gfI i) i (37 + i)))) := Lib.hid (by
            have e := forA_up (gfI i) (j := i) (x := 37 + i) (by omega)
            rw [fV0 hi, hv] at e
            rw [HR.out.setCell, e]
            exact HR.out.setRow _)
          have HB2 := Lib.hid (HB.out.setCell (p := ⟨wf.heap.size, i, none⟩) (Nat.le_refl _) (.int .i64 (37 + (i : Int))))
          have HLT := Lib.hid (up_lt (gfI_lt i hi0) (show 37 + i < 256 by omega) i)
          clear HB HR
          go_upto_region 14 with fail
          clear hcF hfF
          generalize wr.setCell ⟨wf.heap.size, i, none⟩ (.int .i64 (37 + (i : Int))) = w2 at *
          have l2 : (ldR 144 (.pointer (some ⟨wf.heap.size, 16, none⟩))).run Tryz.prog w2 = .ok (.agg (setA (fun j => up (gfI i) i (37 + i) (16 + j)))) w2 := by
            rw [HR2.out.ld (o := 16) (n := 32) (by rw [forA_size]; decide) Tryz.underlying144 rfl (by kernel_rfl)]
            have e := forA_set (up (gfI i) i (37 + i)) (k := 0) (by decide)
            simp only [Nat.zero_mul, Nat.zero_add] at e
            rw [e]
          have HWI := Lib.hid (with_is w2 (h := fun j => up (gfI i) i (37 + i) (16 + j)) (fun j => HLT.out (16 + j)) (n := 37 + i) (by omega))
          rw [hv] at HWI
          have HST := Lib.hid (fun (w3 : World) (hr : Row w3 wf.heap.size 148 (forA (up (gfI i) i (37 + i)))) => st_set0 (G := up (gfI i) i (37 + i)) (h := bitOn (fun j => up (gfI i) i (37 + i) (16 + j)) (37 + i)) hr)
          change Hid (∀ (w3 : World) (hr : Row w3 wf.heap.size 148 (forA (up (gfI i) i (37 + i)))), (stR 144 (.pointer (some ⟨wf.heap.size, 16, none⟩)) (.agg (setA (bitOn (fun j => up (gfI i) i (37 + i) (16 + j)) (37 + i))))).run Tryz.prog w3 = .ok () (w3.setRow wf.heap.size (forA (gfI (i + 1))))) at HST
          generalize setA (fun j => up (gfI i) i (37 + i) (16 + j)) = S1 at *
          generalize setA (bitOn (fun j => up (gfI i) i (37 + i) (16 + j)) (37 + i)) = S2 at *
          go_wp2_with (go_at_call 56; refine HWI.out.mono ?_; rintro e3 w3 ⟨rfl, hb3⟩; have HB3 := Lib.hid (HB2.out.trans (hb3.mono HB2.out.size)); have HR3 := Lib.hid (HR2.out.keep hb3); have st3 := HST.out w3 HR3.out; clear hb3)
          go_roundw
          case rel => exact ⟨i + 1, by omega, by go_num, Lib.hid (HB3.out.trans (Upd.toBelow (Upd.setRow w3 _ (S := fun k => k = wf.heap.size) rfl) HB3.out.size (by omega))), Lib.hid (HR3.out.setRow _)⟩
          case measure => simp [intOf]; omega
        · obtain rfl : i = 16 := by omega
          have hA := HR.out
          rw [forA_ext gfI_all] at hA
          have HA := Lib.hid (forA_size gF)
          have HP := Lib.hid (pack_is wr gF_fr)
          have l1 := hA.ld0 Tryz.underlying148 rfl (by rw [HA.out]; kernel_rfl)
          have HW3 := Lib.hid (HWW.out.keep HB.out)
          have HLE := Lib.hid HB.out.size
          generalize forA gF = A at *
          clear hA HR HA
          go_upto_region 17 with (go_at_call 57; refine HP.out.mono ?_; rintro e5 w5 ⟨v5, rfl, ho5, hb5⟩)
          have HW5 := Lib.hid (HW3.out.keep hb5)
          have HK5 := Lib.hid (KO.fresh HW3.out (Nat.le_refl _) ho5)
          have HF5 := Lib.hid ho5
          clear ho5 hb5 HP l1 HW3 HB HWW
          have HIP := Lib.hid (ipack1b_is w5)
          unfold nodeA at HIP
          go_upto_region 18 with (go_at_call 58; refine HIP.out.mono ?_; rintro e6 w6 ⟨g6, rfl, hg6, hk6, hb6⟩)
          have HW6 := Lib.hid (HW5.out.keep hb6)
          have HK6 := Lib.hid (HK5.out.keep hb6)
          have HKR6 : Hid (KO w w6 wv (.slice (some ⟨g6, 0, none⟩) 32 32) rootL) := Lib.hid (KO.fresh HW5.out hg6 (ob_of_bk (B := g6) (l := rootL) hk6 (Nat.le_refl _) (by decide) (c := 32) rfl))
          obtain ⟨p5, c5, rfl⟩ := HF5.out.form
          have hc5 : (Value.slice p5 (pkS gF 4).length c5) = .slice p5 192 c5 := by rw [pkS_len]
          rw [hc5] at HK6 ⊢
          obtain ⟨b5, o5, rfl, hcap⟩ : ∃ b o, p5 = some ⟨b, o, none⟩ ∧ 192 ≤ c5 := by
            obtain ⟨a', cap', e1, e2, e3, e4⟩ := HK6.out.a
            injection e1 with e1 e5 e6
            rcases e4 with e4 | ⟨b', o', g1, _⟩
            · have := pkS_len gF 4; rw [e4] at this; cases this
            · exact ⟨b', o', by rw [e1, g1], by rw [pkS_len] at e2; omega⟩
          clear hg6 hk6 hb6 HIP HW5 HK5 HF5 hc5
          go_wp2_with fail
          have HW60 : Hid (WS w w6 D sb nb wv (64 + 0) (f3 0)) := HW6
          go_loopw [60] (fun iv wr => ∃ i wv, i ≤ 3 ∧ iv = .int .i64 (i : Nat) ∧ Hid (WS w wr D sb nb wv (64 + i) (f3 i)) ∧ Hid (KO w wr wv (.slice (some ⟨b5, o5, none⟩) 192 c5) (pkS gF 4)) ∧ Hid (KO w wr wv (.slice (some ⟨g6, 0, none⟩) 32 32) rootL)) (fun iv _ => 3 - (intOf iv).toNat)
          case atStart => exact ⟨0, _, by omega, rfl, HW60, HK6, HKR6⟩
          case round =>
            clear HW60 HK6 HKR6 HW6
            obtain ⟨i, wv, hi0, rfl, HW, HK5, HKR⟩ := hrel
            have h4 : i = 0 ∨ i = 1 ∨ i = 2 ∨ i = 3 := by omega
            rcases h4 with rfl | rfl | rfl | rfl
            · have HP := Lib.hid (HK5.out.part rfl (pkS_len gF 4) (k := 0) (by decide))
              rw [Nat.add_zero, Nat.sub_zero] at HP
              have HWR := Lib.hid (HW.out.write (k := 1) (by decide) (pk_part 0 (by decide)) HP.out (by decide))
              go_wp2_with (go_at_call 55; refine HWR.out.mono ?_; rintro e2 w2 ⟨rfl, wv2, hw2, hk2⟩; have HW2 := Lib.hid hw2; have HK52 := Lib.hid (hk2 _ _ HK5.out); have HKR2 := Lib.hid (hk2 _ _ HKR.out); clear hw2 hk2)
              go_roundw
              case rel => exact ⟨1, wv2, by omega, by go_num, HW2, HK52, HKR2⟩
              case measure => simp [intOf]
            · have HP := Lib.hid (HK5.out.part rfl (pkS_len gF 4) (k := 64) (by decide))
              have HWR := Lib.hid (HW.out.write (k := 2) (by decide) (pk_part 64 (by decide)) HP.out (by decide))
              go_wp2_with (go_at_call 55; refine HWR.out.mono ?_; rintro e2 w2 ⟨rfl, wv2, hw2, hk2⟩; have HW2 := Lib.hid hw2; have HK52 := Lib.hid (hk2 _ _ HK5.out); have HKR2 := Lib.hid (hk2 _ _ HKR.out); clear hw2 hk2)
              go_roundw
              case rel => exact ⟨2, wv2, by omega, by go_num, HW2, HK52, HKR2⟩
              case measure => simp [intOf]
            · have HP := Lib.hid (HK5.out.part rfl (pkS_len gF 4) (k := 128) (by decide))
              have HWR := Lib.hid (HW.out.write (k := 3) (by decide) (pk_part 128 (by decide)) HP.out (by decide))
              go_wp2_with (go_at_call 55; refine HWR.out.mono ?_; rintro e2 w2 ⟨rfl, wv2, hw2, hk2⟩; have HW2 := Lib.hid hw2; have HK52 := Lib.hid (hk2 _ _ HK5.out); have HKR2 := Lib.hid (hk2 _ _ HKR.out); clear hw2 hk2)
              go_roundw
              case rel => exact ⟨3, wv2, by omega, by go_num, HW2, HK52, HKR2⟩
              case measure => simp [intOf]
            · obtain ⟨c7, w7, hap, hat7, hb7, hlt7⟩ := run_appZ HKR.out.a rfl
              have HW7 := Lib.hid (HW.out.keep hb7)
              have HK7 : Hid (KO w w7 wv (.slice (some ⟨wr.heap.size, 0, none⟩) 64 c7) (rootL ++ zeros 32)) := Lib.hid ⟨hat7, fun a n c e => by
                injection e with e _ _
                injection e with e
                subst e
                refine ⟨HW.out.u.size, hlt7, fun e => ?_⟩
                obtain ⟨xs, hx⟩ := HW.out.d.own
                have := (hx.lt _ e).2
                exact absurd this (Nat.lt_irrefl _)⟩
              have HWR := Lib.hid (HW7.out.write (k := 37) (by decide) (by rw [List.length_append, rootL_len, zeros_len]) HK7.out (by decide))
              clear hat7 hb7 hlt7 HW HK5 HKR
              go_upto_region 26 with (go_at_call 55; refine HWR.out.mono ?_; rintro e8 w8 ⟨rfl, wv8, hw8, hk8⟩; have HW8 := Lib.hid hw8; clear hw8 hk8)
              clear HWR HK7 HW7 hap
              have HSZ8 := Lib.hid (size_is HW8.out.d)
              have HMK := Lib.hid (mark_is w8)
              go_upto_region 27 with (first | (go_at_call 54; refine HSZ8.out.mono ?_; rintro e9 w9 ⟨rfl, rfl⟩) | (go_at_call 59; refine HMK.out.mono ?_; rintro e9 w9 ⟨v9, rfl, ho9, hb9⟩; have HW9 := Lib.hid (HW8.out.keep hb9); have HK9 := Lib.hid (KO.fresh HW8.out (Nat.le_refl _) ho9); have HWR2 := Lib.hid (HW9.out.write (k := 0) (by decide) markL_len HK9.out (by decide)); clear ho9 hb9) | (go_at_call 55; refine HWR2.out.mono ?_; rintro e10 w10 ⟨rfl, wv10, hw10, hk10⟩; have HW10 := Lib.hid hw10; clear hw10 hk10))
              have HFL := Lib.hid (flush_is HW10.out.d)
              rw [← fmt_f3] at HFL
              go_wp2_with (go_at_call 60; refine HFL.out.mono ?_; rintro e11 w11 ⟨rfl, hd11, hu11⟩; have HD11 := Lib.hid hd11; have HU11 := Lib.hid (HW10.out.u.trans (hu11.mono (S' := fun k => k = D ∨ k = sb ∨ k = nb) (fun i _ e => by rcases e with e | e; exact .inl e; exact .inr (.inl e)))); clear hd11 hu11)
              go_ret
              exact ⟨rfl, HD11.out, HU11.out⟩
end
end Go.Proofs.YtnbhohaphmilmaaGreatDoor
namespace Go.Proofs.YtnbhohaphmilmaaGreatDoor
open Go.RowKit
set_option linter.unusedVariables false
set_option linter.unusedSimpArgs false
theorem ret0 {P : Program} {fn : Func} {R : Ending → World → Prop} {a : Act} {w : World} (h : fn.results = #[]) (hd : a.defers = []) (hr : R (.returned (.tuple #[])) w) : bodyPost P fn R .ret a w := bodyPost_ret (results_none h _ _ _) hd hr
set_option maxRecDepth 100000 in
set_option maxHeartbeats 400000 in
theorem isort0_is (w : World) (f : Value) : Calls Tryz.prog 289 #[.slice none 0 0, .int .i64 0, .int .i64 0, f] w fun e w' => e = .returned (.tuple #[]) ∧ w = w' := by
  go_enter Tryz.func289, Tryz.ntmps289
  go_wp2_with fail
  refine wp_loop_rounds 1 ?_
  rw [rounds_succ]
  go_wp2_with fail
  (try simp only [Exit.inBlock, Exit.then]); first | (refine bodyPost_ret (results_none rfl _ _ _) rfl ?_) | (refine bodyPost_end (results_none rfl _ _ _) rfl ?_)
  exact ⟨rfl, rfl⟩
set_option maxRecDepth 100000 in
set_option maxHeartbeats 400000 in
theorem pdq0_is (w : World) (n f : Value) : Calls Tryz.prog 220 #[.slice none 0 0, .int .i64 0, .int .i64 0, n, f] w fun e w' => e = .returned (.tuple #[]) ∧ w = w' := by
  have HI := Lib.hid (isort0_is w f)
  go_enter Tryz.func220, Tryz.ntmps220
  go_wp2_with fail
  refine wp_loop_rounds 1 ?_
  rw [rounds_succ]
  go_wp2_with (go_at_call 289; refine HI.out.mono ?_; rintro e1 w1 ⟨rfl, rfl⟩)
  (try simp only [Exit.inBlock, Exit.then]); first | (refine bodyPost_ret (results_none rfl _ _ _) rfl ?_) | (refine bodyPost_end (results_none rfl _ _ _) rfl ?_)
  exact ⟨rfl, rfl⟩
set_option maxRecDepth 100000 in
set_option maxHeartbeats 400000 in
theorem len64_is (w : World) : Calls Tryz.prog 298 #[.int .u64 0] w fun e w' => e = .returned (.int .i64 0) ∧ w = w' := by
  go_enter Tryz.func298, Tryz.ntmps298
  go_wp2_with fail
  go_ret
  exact ⟨by kernel_rfl, rfl⟩
set_option maxRecDepth 100000 in
set_option maxHeartbeats 400000 in
theorem len_is (w : World) : Calls Tryz.prog 221 #[.int .u64 0] w fun e w' => e = .returned (.int .i64 0) ∧ w = w' := by
  have HI := Lib.hid (len64_is w)
  go_enter Tryz.func221, Tryz.ntmps221
  go_wp2_with (go_at_call 298; refine HI.out.mono ?_; rintro e1 w1 ⟨rfl, rfl⟩)
  go_ret
  exact ⟨rfl, rfl⟩
set_option maxRecDepth 100000 in
set_option maxHeartbeats 400000 in
theorem sortf0_is (w : World) (f : Value) : Calls Tryz.prog 144 #[.slice none 0 0, f] w fun e w' => e = .returned (.tuple #[]) ∧ w = w' := by
  have HI := Lib.hid (len_is w)
  have HP := Lib.hid (pdq0_is w (.int .i64 0) f)
  go_enter Tryz.func144, Tryz.ntmps144
  go_wp2_with (first | (go_at_call 221; refine HI.out.mono ?_; rintro e1 w1 ⟨rfl, rfl⟩) | (go_at_call 220; refine HP.out.mono ?_; rintro e1 w1 ⟨rfl, rfl⟩))
  (try simp only [Exit.inBlock, Exit.then]); first | (refine bodyPost_ret (results_none rfl _ _ _) rfl ?_) | (refine bodyPost_end (results_none rfl _ _ _) rfl ?_)
  exact ⟨rfl, rfl⟩
section
variable {w w' : World} {D sb nb m B F L a : Nat} {wv : Value} {s f : List Int}
theorem fsA_get1 (d l v : Value) (a b : Nat) : (fsA d l v a b)[1]? = some l := by
  unfold fsA
  rw [Array.getElem?_append_left (by simp; omega), Array.getElem?_append_left (by simp)]
  rfl
theorem fsA_get5 (d l v : Value) (a b : Nat) : (fsA d l v a b)[196]? = some (.map (some a)) := by
  unfold fsA
  rw [Array.getElem?_append_right (by simp [forA_size])]
  simp [forA_size]
set_option maxRecDepth 100000 in
set_option maxHeartbeats 400000 in
theorem writes0_is (h : FSw w B F D L a) : Calls Tryz.prog 77 #[.pointer (some ⟨F, 0, none⟩)] w fun e w' => e = .returned (.slice none 0 0) ∧ Below w.heap.size w w' := by
  obtain ⟨z, n, c, b, hF⟩ := h.f
  have c5 : w.cell? ⟨F, 196, none⟩ = some (.map (some a)) := by
    rw [cell_of_row w F 196 _ _ (0, 0) hF, fsA_get5]
  have hr := run_range_map (P := Tryz.prog) w 169 3 54 a #[] 0 Tryz.underlying169 h.m
  have hn := fun ty => run_next_map (P := Tryz.prog) w ty a 0 0 #[] #[] 0 h.m (by simp) (Nat.le_refl _)
  have hn2 : ∀ ty, (Instr.next (.pointer (some ⟨w.heap.size, 0, none⟩)) false ty).run Tryz.prog (w.alloc (.mapIter (some a) 0 #[] 0)) = .ok (.tuple #[.bool false]) (w.alloc (.mapIter (some a) 0 #[] 0)) := fun ty => by
    rcases hn ty with h | ⟨e, he, _⟩
    · exact h.2
    · exact absurd he (by simp [leftOf])
  have HB := Lib.hid (Go.Joins.below_alloc1 w (.mapIter (some a) 0 #[] 0))
  have HS := Lib.hid (fun f => sortf0_is (w.alloc (.mapIter (some a) 0 #[] 0)) f)
  clear hn hF h
  go_enter Tryz.func77, Tryz.ntmps77
  go_upto_region 3 with fail
  generalize w.alloc (.mapIter (some a) 0 #[] 0) = w1 at *
  refine wp_loop_rounds 1 ?_
  rw [rounds_succ]
  go_wp2_with (go_at_call 144; refine (HS.out _).mono ?_; rintro e1 w1 ⟨rfl, rfl⟩)
  go_ret
  exact ⟨rfl, HB.out⟩
set_option maxRecDepth 100000 in
set_option maxHeartbeats 400000 in
theorem room0_is (h : FSw w B F D L a) : Calls Tryz.prog 206 #[.pointer (some ⟨L, 0, none⟩)] w fun e w' => e = .returned (.int .i64 30) ∧ w = w' := by
  have c2 : w.cell? ⟨L, 2, none⟩ = some (.int .i64 32) := by rw [cell_of_row w L 2 _ _ (0, 0) h.l]; rfl
  clear h
  go_enter Tryz.func206, Tryz.ntmps206
  go_wp2_with fail
  go_ret
  exact ⟨rfl, rfl⟩
set_option maxRecDepth 100000 in
set_option maxHeartbeats 400000 in
theorem jright0_is (h : FSw w B F D L a) : Calls Tryz.prog 140 #[.pointer (some ⟨L, 0, none⟩), .slice none 0 0] w fun e w' => e = .returned (.int .i64 0) ∧ Below w.heap.size w w' := by
  have HRM := Lib.hid (room0_is h)
  have hmm := @run_makeMap Tryz.prog
  have HB := Lib.hid (Go.Joins.below_alloc1 w (.map #[] 0))
  clear h
  go_enter Tryz.func140, Tryz.ntmps140
  go_wp2_with (go_at_call 206; refine HRM.out.mono ?_; rintro e1 w1 ⟨rfl, rfl⟩)
  refine wp_loop_rounds 1 ?_
  rw [rounds_succ]
  go_wp2_with fail
  go_ret
  exact ⟨rfl, HB.out⟩
set_option maxRecDepth 100000 in
set_option maxHeartbeats 400000 in
theorem commit0_is (h : FSw w B F D L a) (hd : Dk w D sb nb wv m 64 s f) : Calls Tryz.prog 76 #[.pointer (some ⟨L, 0, none⟩), .slice none 0 0] w fun e w' => e = .returned (.int .i64 0) ∧ Dk w' D sb nb (.slice none 0 0) 0 64 f f ∧ Upd (fun k => k = D ∨ k = sb) w w' := by
  have HJR := Lib.hid (jright0_is h)
  have HD := Lib.hid hd
  have HFS := Lib.hid h
  clear h hd
  go_enter Tryz.func76, Tryz.ntmps76
  go_upto_region 4 with (go_at_call 140; refine HJR.out.mono ?_; rintro e1 w1 ⟨rfl, hb1⟩)
  have c0 : w1.cell? ⟨L, 0, none⟩ = some (.pointer (some ⟨D, 0, none⟩)) := by rw [cell_of_row w1 L 0 _ _ (0, 0) (HFS.out.keep hb1).l]; rfl
  have HFL := Lib.hid (flush_is (HD.out.keep hb1))
  have HB1 := Lib.hid hb1
  clear hb1 HJR HD HFS
  go_wp2_with (go_at_call 60; refine HFL.out.mono ?_; rintro e2 w2 ⟨rfl, hd2, hu2⟩; have HD2 := Lib.hid hd2; have HU2 := Lib.hid hu2; clear hd2 hu2)
  go_ret
  exact ⟨rfl, HD2.out, (Upd.below HB1.out).trans HU2.out⟩
theorem Dk.set {i : Nat} (h : Dk w D sb nb (.slice none 0 0) 0 64 s f) {x : Value} {F : Nat} (h1 : F ≠ D) (h2 : F ≠ sb) (h3 : F ≠ nb) : Dk (w.setCell ⟨F, i, none⟩ x) D sb nb (.slice none 0 0) 0 64 s f := by
  have u : Upd (fun k => k = F) w (w.setCell ⟨F, i, none⟩ x) := Upd.set w x rfl
  exact ⟨set_blk (Ne.symm h1) h.c0, set_blk (Ne.symm h1) h.c1, set_blk (Ne.symm h1) h.c2, set_blk (Ne.symm h1) h.c3, fun j => by rw [World.frozen?_setCell]; exact h.fz j, Nat.lt_of_lt_of_le h.lt u.size, h.sB.upd u (Ne.symm h2), h.nB.upd u (Ne.symm h3), h.ls, h.lf, ⟨[], World.ownsRow_nil _ _ _ _⟩, h.n1, h.n2, h.n3, by simp [Value.ownBlock], by simp [Value.ownBlock], by simp [Value.ownBlock], h.S0, h.S1⟩
set_option maxRecDepth 100000 in
set_option maxHeartbeats 400000 in
theorem sync0_is (h : FSw w B F D L a) (hd : Dk w D sb nb wv m 64 s f) (hDB : D < B) (hsB : sb < B) (hnB : nb < B) : Calls Tryz.prog 25 #[.pointer (some ⟨F, 0, none⟩)] w fun e w' => e = .returned (.int .i64 0) ∧ Dk w' D sb nb (.slice none 0 0) 0 64 f f ∧ Upd (fun k => k = D ∨ k = sb ∨ k = F) w w' := by
  have hmm := @run_makeMap Tryz.prog
  have fl : ∀ (w : World), FSw w B F D L a → w.cell? ⟨F, 1, none⟩ = some (.pointer (some ⟨L, 0, none⟩)) := fun w h => by
    obtain ⟨z, n, c, b, hF⟩ := h.f
    rw [cell_of_row _ F 1 _ _ (0, 0) hF, fsA_get1]
  have c1 := fl w h
  have hdr := Below.refl w.heap.size w
  have HW := Lib.hid (writes0_is (h.keep hdr.drew))
  have HFS := Lib.hid h
  have HD := Lib.hid hd
  have HFL := Lib.hid fl
  clear fl hdr h hd
  go_enter Tryz.func25, Tryz.ntmps25
  go_upto_region 1 with fail
  go_region_held3 (fun wx => wx.cell? ⟨F, 1, none⟩ = some (.pointer (some ⟨L, 0, none⟩))) (first | assumption | exact hS2 | exact hS3)
    (first | ((go_at_call 77; (with_reducible refine HW.out.mono ?_); rintro e2 w2 ⟨rfl, hb2⟩; have hF2 := HFS.out.keep ((Below.refl w.heap.size w).drew.trans hb2); have hD2 := HD.out.keep ((Below.refl w.heap.size w).drew.trans hb2); have hS2 := HFL.out w2 hF2; have HC := Lib.hid (commit0_is hF2 hD2); have HF2 := Lib.hid hF2; have HB2 := Lib.hid ((Below.refl w.heap.size w).drew.trans hb2); clear hb2 hF2 hD2)) | ((go_at_call 76; refine HC.out.mono ?_; rintro e3 w3 ⟨rfl, hd3, hu3⟩; have HD3 := Lib.hid hd3; have HU3 := Lib.hid hu3; have hS3 : w3.cell? ⟨F, 1, none⟩ = some (.pointer (some ⟨L, 0, none⟩)) := (hu3.cell (Array.getElem?_eq_some_iff.1 HF2.out.f.choose_spec.choose_spec.choose_spec.choose_spec).1 (by have := HF2.out.f0; omega)).trans (HFL.out w2 HF2.out); clear hd3 hu3)))
  all_goals
    obtain ⟨z, n, c, b, hF⟩ := HF2.out.f
    have hr2 : Row w2 F 172 (fsA (.pointer (some ⟨D, 0, none⟩)) (.pointer (some ⟨L, 0, none⟩)) (.slice z n c) a b) := hF
    have hr3 := hr2.upd HU3.out (by have := HF2.out.f0; omega)
    have hr4 := hr3.alloc (.map #[] 0)
    have c5 : (w3.alloc (.map #[] 0)).cell? ⟨F, 196, none⟩ = some (.map (some a)) := by rw [hr4.cell, fsA_get5]
    have f5 := hr4.fz 196
    have d5 : w3.cell? ⟨F, 196, none⟩ = some (.map (some a)) := by rw [hr3.cell, fsA_get5]
    have g5 := hr3.fz 196
    have HD5 := Lib.hid (HD3.out.keep (Go.Joins.below_alloc1 w3 (.map #[] 0)))
    have HFD : Hid (F ≠ D ∧ F ≠ sb ∧ F ≠ nb) := Lib.hid (by have := HF2.out.f0; omega)
    clear hF hr2 hr3 hr4 c1 hS2 hS3
    go_wp2_with fail
    go_ret
    refine ⟨rfl, HD5.out.set HFD.out.1 HFD.out.2.1 HFD.out.2.2, ?_⟩
    exact (((Upd.below HB2.out).trans (HU3.out.mono (fun i _ e => by rcases e with e | e; exact .inl e; exact .inr (.inl e)))).trans (Upd.alloc w3 (.map #[] 0))).trans (Upd.set _ _ (.inr (.inr rfl)))
end
end Go.Proofs.YtnbhohaphmilmaaGreatDoor
namespace Go.Proofs.YtnbhohaphmilmaaGreatDoor
open Go.RowKit
set_option linter.unusedVariables false
set_option linter.unusedSimpArgs false
set_option maxRecDepth 100000 in
set_option maxHeartbeats 1000000 in
theorem make_is (w : World) : Calls Tryz.prog 11 #[.int .i64 64, .slice none 0 0] w fun e w' => ∃ D sb nb, e = .returned (.tuple #[.pointer (some ⟨D, 0, none⟩), .int .i64 0]) ∧ Dk w' D sb nb (.slice none 0 0) 0 64 fmtL fmtL ∧ w.heap.size ≤ D ∧ w.heap.size ≤ sb ∧ w.heap.size ≤ nb ∧ Below w.heap.size w w' := by
  have HN := Lib.hid (dnew_is w)
  go_enter Tryz.func11, Tryz.ntmps11
  go_upto_region 4 with (go_at_call 21; refine HN.out.mono ?_; rintro e1 w1 ⟨D, sb, nb, rfl, hd1, l1, l2, l3, hb1⟩)
  have HF := Lib.hid (format_is hd1)
  have HB1 := Lib.hid hb1
  have HL := Lib.hid (And.intro l1 (And.intro l2 l3))
  clear hd1 l1 l2 l3 hb1 HN
  go_upto_region 7 with (go_at_call 22; refine HF.out.mono ?_; rintro e2 w2 ⟨rfl, hd2, hu2⟩)
  have HD2 := Lib.hid hd2
  have HB2 := Lib.hid (HB1.out.trans (hu2.toBelow HB1.out.size (fun k hk e => by have := HL.out; omega)))
  have HM := Lib.hid (mount_is hd2 fmt_is.1)
  have HLT := Lib.hid (And.intro hd2.lt (And.intro hd2.sB.lt hd2.nB.lt))
  clear hd2 hu2 HF HB1
  go_upto_region 10 with (go_at_call 23; refine HM.out.mono ?_; rintro e3 w3 ⟨F, L, a, rfl, hf3, hb3⟩)
  have HD3 := Lib.hid (HD2.out.keep hb3)
  have HB3 := Lib.hid (HB2.out.trans (hb3.mono HB2.out.size))
  have HS := Lib.hid (sync0_is hf3 HD3.out HLT.out.1 HLT.out.2.1 HLT.out.2.2)
  have HF0 := Lib.hid (Nat.le_trans HB2.out.size hf3.f0)
  clear hb3 hf3 HM HD2 HB2
  go_wp2_with fail
  refine wp_loop_rounds 1 ?_
  rw [rounds_succ]
  go_wp2_with (go_at_call 25; refine HS.out.mono ?_; rintro e4 w4 ⟨rfl, hd4, hu4⟩; have HD4 := Lib.hid hd4; have HB4 := Lib.hid (HB3.out.trans (hu4.toBelow HB3.out.size (fun k hk e => by have := HL.out; have := HF0.out; omega))); clear hd4 hu4)
  go_ret2
  exact ⟨_, _, _, rfl, HD4.out, HL.out.1, HL.out.2.1, HL.out.2.2, HB4.out⟩
end Go.Proofs.YtnbhohaphmilmaaGreatDoor
