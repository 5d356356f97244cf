/- The walk of ringkeep5.CpuMoved. -/
import Derived.Test.YtopadiofanaaiaaCpuTwo
import Derived.Deep.Cut
import Derived.Deep.CutRange
namespace Go.Proofs.Ytopadiofanaaiaa.CpuLaw
open Go.RowKit
set_option linter.unusedVariables false
set_option linter.unusedSimpArgs false
attribute [local go_sem ↓] load61_eq store61_eq zero61 cells61 load59_eq sub33_eq
theorem pcring (p : Nat) : ((cellsA zeroG).setIfInBounds 9 (Value.int .i64 1)).setIfInBounds 8 (.int .u32 p) = cellsA ⟨fun _ => 0, p, 1⟩ := rfl
theorem ringpc (p : Nat) : ((cellsA zeroG).setIfInBounds 8 (.int .u32 p)).setIfInBounds 9 (Value.int .i64 1) = cellsA ⟨fun _ => 0, p, 1⟩ := rfl
theorem pcg1 (p : Nat) : (cellsA g1).setIfInBounds 8 (.int .u32 p) = cellsA ⟨fun _ => 0, p, 1⟩ := rfl
attribute [local go_sem] cellsA_size ring1 ringpc pcg1
def bytesOf (X : Int) : List Int := [X % 256, X / 256 % 256, X / 65536 % 256, X / 16777216]
/-- bytes that are words that are instructions -/
structure WOk (bs : List Int) (i : Nat) : Prop where
  len : bs.length = 4 * i
  byte : ∀ x ∈ bs, 0 ≤ x ∧ x ≤ 255
  word : ∀ j, j < i → ∃ ins, CodeLaw.decR ((wordOf (bytesF bs) (4 * j) : Nat) : Int) = (ins, 0) ∧ Allowed ins.op
theorem WOk.nil : WOk [] 0 := ⟨rfl, by simp, fun j h => absurd h (Nat.not_lt_zero _)⟩
theorem bytesF_left {bs t : List Int} {k : Nat} (h : k < bs.length) : bytesF (bs ++ t) k = bytesF bs k := by
  unfold bytesF
  rw [List.getD_eq_getElem?_getD, List.getD_eq_getElem?_getD, List.getElem?_append_left h]
theorem bytesF_right {bs t : List Int} {k n : Nat} (h : n = bs.length) : bytesF (bs ++ t) (n + k) = bytesF t k := by
  unfold bytesF
  rw [List.getD_eq_getElem?_getD, List.getD_eq_getElem?_getD, List.getElem?_append_right (by omega), show n + k - bs.length = k by omega]
theorem WOk.push {bs : List Int} {i : Nat} (h : WOk bs i) {X : Int} (h0 : 0 ≤ X) (h1 : X < 4294967296) {ins : CodeLaw.Ins} (hd : CodeLaw.decR X = (ins, 0)) (ha : Allowed ins.op) : WOk (bs ++ bytesOf X) (i + 1) := by
  refine ⟨by rw [List.length_append, h.len]; rfl, fun x hx => ?_, fun j hj => ?_⟩
  · rw [List.mem_append] at hx
    rcases hx with hx | hx
    · exact h.byte x hx
    · simp only [bytesOf, List.mem_cons, List.not_mem_nil, or_false] at hx
      omega
  · have hl := h.len
    by_cases q : j < i
    · have e : wordOf (bytesF (bs ++ bytesOf X)) (4 * j) = wordOf (bytesF bs) (4 * j) := by
        unfold wordOf
        rw [bytesF_left (by omega), bytesF_left (by omega), bytesF_left (by omega), bytesF_left (by omega)]
      rw [e]
      exact h.word j q
    · obtain rfl : j = i := by omega
      have e : ((wordOf (bytesF (bs ++ bytesOf X)) (4 * j) : Nat) : Int) = X := by
        unfold wordOf
        have b0 := bytesF_right (bs := bs) (t := bytesOf X) (k := 0) hl.symm
        have b1 := bytesF_right (bs := bs) (t := bytesOf X) (k := 1) hl.symm
        have b2 := bytesF_right (bs := bs) (t := bytesOf X) (k := 2) hl.symm
        have b3 := bytesF_right (bs := bs) (t := bytesOf X) (k := 3) hl.symm
        rw [Nat.add_zero] at b0
        rw [b0, b1, b2, b3]
        have c0 : bytesF (bytesOf X) 0 = (X % 256).toNat % 256 := rfl
        have c1 : bytesF (bytesOf X) 1 = (X / 256 % 256).toNat % 256 := rfl
        have c2 : bytesF (bytesOf X) 2 = (X / 65536 % 256).toNat % 256 := rfl
        have c3 : bytesF (bytesOf X) 3 = (X / 16777216).toNat % 256 := rfl
        rw [c0, c1, c2, c3]
        omega
      rw [e]
      exact ⟨ins, hd, ha⟩
theorem by_bounds {a : Nat} (h : a < 4294967296) : ∃ p : Nat, (a : Int) - (a : Int) % 4 = (p : Int) ∧ p % 4 = 0 ∧ p < 4294967296 := ⟨a - a % 4, by omega, by omega, by omega⟩
theorem cut_ins (w : World) (a b c d : Int) : Hid (Below w.heap.size w (w.alloc (.cells #[.int .i64 a, .int .i64 b, .int .i64 c, .int .i64 d] 51)) ∧ (w.alloc (.cells #[.int .i64 a, .int .i64 b, .int .i64 c, .int .i64 d] 51)).cell? ⟨w.heap.size, 0, none⟩ = some (.int .i64 a) ∧ (w.alloc (.cells #[.int .i64 a, .int .i64 b, .int .i64 c, .int .i64 d] 51)).cell? ⟨w.heap.size, 1, none⟩ = some (.int .i64 b) ∧ (w.alloc (.cells #[.int .i64 a, .int .i64 b, .int .i64 c, .int .i64 d] 51)).cell? ⟨w.heap.size, 2, none⟩ = some (.int .i64 c) ∧ (w.alloc (.cells #[.int .i64 a, .int .i64 b, .int .i64 c, .int .i64 d] 51)).cell? ⟨w.heap.size, 3, none⟩ = some (.int .i64 d)) := by
  have h := heap_alloc_new w (.cells #[.int .i64 a, .int .i64 b, .int .i64 c, .int .i64 d] 51)
  exact Lib.hid ⟨Go.Joins.below_alloc1 _ _, by rw [cell_of_row _ _ _ _ _ _ h]; rfl, by rw [cell_of_row _ _ _ _ _ _ h]; rfl, by rw [cell_of_row _ _ _ _ _ _ h]; rfl, by rw [cell_of_row _ _ _ _ _ _ h]; rfl⟩
set_option maxRecDepth 100000 in
set_option maxHeartbeats 1000000 in
theorem moved_any {w : World} {s : Value} {xs : List Int} {a : Nat} {n : Int} (hs : At (Value.int .u32) 0 w s xs) (hx : ∀ x ∈ xs, 0 ≤ x ∧ x < 4294967296) (ha : a < 4294967296) :
    Calls Try.prog 8 #[s, .int .u32 a, .int .i64 n] w fun e w' => e = .returned (.bool true) ∧ Below w.heap.size w w' := by
  obtain ⟨sp, cap, rfl, hl, hcap, hc⟩ := hs
  have HS := Lib.hid hc
  have HX := Lib.hid hx
  have hcap' : (xs.length : Int) ≤ cap := by omega
  obtain ⟨p, hp, hp4, hp32⟩ := by_bounds ha
  have hsub := sub_by hp hp32
  clear hc hx
  go_enter Try.func8, Try.ntmps8
  go_wp2_with fail
  refine (steps_any _).mono ?_
  rintro e w1 ⟨rfl, hb1, hs1⟩
  have HB1 := Lib.hid hb1
  have HS1 := Lib.hid hs1
  clear hb1 hs1
  go_upto_region 5 with fail
  have HP := Lib.hid (And.intro hp4 hp32)
  clear hp hp4 hp32 hsub
  obtain ⟨m, hm⟩ : ∃ m, m = min xs.length 20 := ⟨_, rfl⟩
  go_cut [29, 30, 31] from 25 to 31 (fun s29 s30 s31 wx => s29 = .slice sp m cap ∧ s30 = .int .i64 m ∧ s31 = .int .i64 0 ∧ wx = w1)
  case first =>
    go_wp2_with fail
    all_goals (go_meet; case rel => exact ⟨by congr 1; omega, by congr 1; omega, rfl, rfl⟩)
  case rest =>
    obtain ⟨rfl, rfl, rfl, hwc⟩ := hcut
    subst hwc
    obtain ⟨v1, rfl⟩ : ∃ x : World, x = wc := ⟨_, rfl⟩
    have hm20 : m ≤ 20 := by omega
    have hmx : m ≤ xs.length := by omega
    have HM := Lib.hid (And.intro hm20 hmx)
    have hmi : (m : Int) ≤ 20 := by omega
    clear hm hm20 hmx ha
    obtain ⟨i0, hi0, hz0, hz1, hz2⟩ := info_parts info5
    have HI0 := Lib.hid hi0
    clear hi0
    go_wp2_with fail
    go_loopw [7, 31] (fun v7 iv wr => ∃ i : Nat, i ≤ m ∧ iv = .int .i64 i ∧ Hid (∃ bs : List Int, WOk bs i ∧ wr.ownsRow v1.heap.size 5 1 v7 (4 * i) (bs.map u8V) ∧ Below v1.heap.size v1 wr)) (fun _ iv _ => m - (intOf iv).toNat)
    case atStart => exact ⟨0, by omega, rfl, [], WOk.nil, World.ownsRow_nil _ _ _ _, Below.refl _ _⟩
    case round =>
      obtain ⟨i, hi, rfl, HI⟩ := hrel
      obtain ⟨bs, hok, hown, hbw⟩ := HI.out
      by_cases him : i < m
      · rcases HS.out with h | ⟨b, off, rfl, hblt, hcell⟩
        · have := HM.out.2
          rw [h] at this
          simp at this
          omega
        · have hix : i < xs.length := by have := HM.out.2; omega
          have hc1 := (hbw.cell (p := ⟨b, off + i, none⟩) (by have := HB1.out.size; show b < _; omega)).trans ((HB1.out.cell (p := ⟨b, off + i, none⟩) hblt).trans (hcell i hix))
          have hxr := HX.out (xs.getD i 0) (by rw [List.getD_eq_getElem?_getD, List.getElem?_eq_getElem hix]; exact List.getElem_mem hix)
          have hdi : (i : Int) < (m : Int) := by omega
          generalize xs.getD i 0 = x at *
          have hdec := fun w => CodeLaw.dec_is x w hxr.1 hxr.2
          have hpe := pick_enc hxr.1 hxr.2
          have HOK := Lib.hid hok
          have HOW := Lib.hid hown
          have HBW := Lib.hid hbw
          have HXR := Lib.hid hxr
          have HDE := Lib.hid hdec
          have HPE := Lib.hid hpe
          clear HI hok hown hbw hxr hdec hpe hcell
          go_wp2_with fail
          refine (HDE.out _).mono ?_
          rintro e w2 ⟨rfl, hb2⟩
          have HB2 := Lib.hid (HBW.out.trans (hb2.mono HBW.out.size))
          have HOW2 := Lib.hid (owns_keep HOW.out hb2)
          clear hb2 HBW HOW HDE
          go_upto_region 9 with fail
          obtain ⟨⟨⟨op, A, B, C⟩, e⟩, hd⟩ : ∃ d, CodeLaw.decR x = d := ⟨_, rfl⟩
          rw [hd]
          have hpk : pick x = if bad (⟨op, A, B, C⟩, e) = true then ⟨14, x % 8, x / 8 % 8, 1⟩ else ⟨op, A, B, C⟩ := by unfold pick; rw [hd]
          have HPK := Lib.hid hpk
          have hx8 : 0 ≤ x := HXR.out.1
          have hx9 : x < 4294967296 := HXR.out.2
          clear hpk hd
          go_cut [31, 56] from 31 to 86 (fun s31 s56 wx => s31 = .int .i64 i ∧ s56 = .bool (bad (⟨op, A, B, C⟩, e)) ∧ wx = w2.alloc (.cells #[.int .i64 op, .int .i64 A, .int .i64 B, .int .i64 C] 51))
          case first =>
            by_cases he : e = 0
            · subst he
              by_cases c1 : 15 ≤ op
              · have o1 : decide (15 ≤ op) = true := decide_eq_true c1
                by_cases c2 : op ≤ 18
                · have o2 : decide (op ≤ 18) = true := decide_eq_true c2
                  go_wp2_with fail
                  go_meet
                  case rel => exact ⟨rfl, by simp [bad, c1, c2], rfl⟩
                · have o2 : decide (op ≤ 18) = false := decide_eq_false c2
                  by_cases c3 : 22 ≤ op
                  · have o3 : decide (22 ≤ op) = true := decide_eq_true c3
                    go_wp2_with fail
                    go_meet
                    case rel => exact ⟨rfl, by simp [bad, c3], rfl⟩
                  · have o3 : decide (22 ≤ op) = false := decide_eq_false c3
                    go_wp2_with fail
                    go_meet
                    case rel => exact ⟨rfl, by simp [bad, c3]; omega, rfl⟩
              · have o1 : decide (15 ≤ op) = false := decide_eq_false c1
                have c3 : ¬ 22 ≤ op := by omega
                have o3 : decide (22 ≤ op) = false := decide_eq_false c3
                go_wp2_with fail
                go_meet
                case rel => exact ⟨rfl, by simp [bad, c3]; intro h; omega, rfl⟩
            · have o0 : (e != 0) = true := by simpa using he
              go_wp2_with fail
              go_meet
              case rel => exact ⟨rfl, by simp [bad, he], rfl⟩
          case rest =>
            obtain ⟨rfl, rfl, rfl⟩ := hcut
            obtain ⟨q, hq⟩ : ∃ q, bad (⟨op, A, B, C⟩, e) = q := ⟨_, rfl⟩
            rw [hq]
            have HQ := Lib.hid hq
            clear hq
            go_upto_if 56 with fail
            go_cut [31] from 31 to 86 (fun s31 wx => s31 = .int .i64 i ∧ Hid (Below w2.heap.size w2 wx ∧ wx.cell? ⟨w2.heap.size, 0, none⟩ = some (.int .i64 (pick x).op) ∧ wx.cell? ⟨w2.heap.size, 1, none⟩ = some (.int .i64 (pick x).a) ∧ wx.cell? ⟨w2.heap.size, 2, none⟩ = some (.int .i64 (pick x).b) ∧ wx.cell? ⟨w2.heap.size, 3, none⟩ = some (.int .i64 (pick x).c)))
            case first =>
              cases q
              · go_wp2_with fail
                go_meet
                case rel =>
                  rw [HPK.out, HQ.out, if_neg (by decide)]
                  exact ⟨rfl, cut_ins _ _ _ _ _⟩
              · go_wp2_with fail
                go_meet
                case rel =>
                  rw [HPK.out, HQ.out, if_pos rfl]
                  exact ⟨rfl, cut_ins _ _ _ _ _⟩
            case rest =>
              obtain ⟨rfl, HCU⟩ := hcut
              obtain ⟨hbc, q0, q1, q2, q3⟩ := HCU.out
              have hX := CodeLaw.back (i := pick x) HPE.out.1
              have hen : CodeLaw.encI (pick x) = ((CodeLaw.encI (pick x)).1, 0) := by rw [← HPE.out.1]
              have hal := HPE.out.2
              generalize (CodeLaw.encI (pick x)).1 = X at *
              generalize pick x = pk at *
              obtain ⟨po, pa, pb, pc⟩ := pk
              dsimp only at q0 q1 q2 q3 hal
              have hen : CodeLaw.encR po pa pb pc = (X, 0) := hen
              have hwx := owns_keep HOW2.out hbc
              have HWX := Lib.hid hwx
              have HBX := Lib.hid (HB2.out.trans (hbc.mono HB2.out.size))
              have HDX := Lib.hid hX.2
              have HAL := Lib.hid hal
              have HEN := Lib.hid hen
              have hX0 := hX.1.1
              have hX1 := hX.1.2
              clear HCU hbc hX hal hen hwx HOW2 HB2 HPK HPE
              go_wp2_with fail
              refine (CodeLaw.enc_is po pa pb pc _).mono ?_
              rintro e w3 ⟨rfl, hb3⟩
              rw [HEN.out]
              have HW3 := Lib.hid (owns_keep HWX.out hb3)
              have HB3 := Lib.hid (HBX.out.trans (hb3.mono HBX.out.size))
              clear hb3 HWX HBX HEN q0 q1 q2 q3
              have hz3 : v1.heap.size ≤ w3.heap.size := HB3.out.size
              have HC := Lib.hid (cells_new w3 [.int .u8 (X % 256), .int .u8 (X / 256 % 256), .int .u8 (X / 65536 % 256), .int .u8 (X / 16777216)] 5)
              have HZ3 := Lib.hid hz3
              have hi20 : i + 1 ≤ 20 := by omega
              have HI20 := Lib.hid hi20
              clear hz3 hi20
              go_wp2_with (at_builtin; go_loud (refine wpList_append_fresh _ rfl (.tmp 72) (.tmp 84) 49 rfl v1.heap.size 5 i0 (.int .u8 0) 1 1 Try.underlying49 HI0.out hz0 hz1 hz2 rfl (by decide) _ _ _ rfl (HW3.out.alloc _) ⟨_, 0, none⟩ 4 4 [.int .u8 (X % 256), .int .u8 (X / 256 % 256), .int .u8 (X / 65536 % 256), .int .u8 (X / 16777216)] rfl rfl HC.out one4 (by have := HI20.out; unfold maxLen; omega) (by have := HI20.out; omega) (by have := HZ3.out; simp; omega) ?_))
              intro v7 w7 own7 grow7 fresh7
              have hb7 := (HB3.out.alloc HB3.out.size (.cells #[.int .u8 (X % 256), .int .u8 (X / 256 % 256), .int .u8 (X / 65536 % 256), .int .u8 (X / 16777216)] 5)).grown grow7 (by have := HZ3.out; simp; omega) (fun g' hg' => (HW3.out.lt g' hg').1)
              have ho7 : w7.ownsRow v1.heap.size 5 1 v7 (4 * (i + 1)) ((bs ++ bytesOf X).map u8V) := by rw [List.map_append]; exact own7
              have HO7 := Lib.hid (⟨bs ++ bytesOf X, HOK.out.push hX0 hX1 HDX.out HAL.out, ho7, hb7⟩ : ∃ bs : List Int, WOk bs (i + 1) ∧ w7.ownsRow v1.heap.size 5 1 v7 (4 * (i + 1)) (bs.map u8V) ∧ Below v1.heap.size v1 w7)
              clear own7 grow7 fresh7 hb7 ho7 HB3 HW3 HC
              go_wp2_with fail
              go_roundw
              case rel => exact ⟨i + 1, by omega, by go_num, HO7⟩
              case measure => simp [intOf]; omega
      · obtain rfl : i = m := by omega
        obtain ⟨w5, rfl⟩ : ∃ x : World, x = wr := ⟨_, rfl⟩
        clear HI
        obtain ⟨pv, cv, rfl⟩ := owns_slice hown
        have HOK := Lib.hid hok
        have HOW := Lib.hid hown
        have HBW := Lib.hid (HB1.out.trans (hbw.mono HB1.out.size))
        have HSZ := Lib.hid (Nat.lt_of_lt_of_le HS1.out hbw.size)
        have HB1S := Lib.hid HB1.out.size
        clear hok hown hbw HB1 HS HX HI0
        go_upto_region 17 with fail
        have hn20 : 4 * i ≤ 80 := by have := HM.out.1; omega
        have hrm : ∃ c, w.heap.size ≤ c ∧ c < w5.heap.size ∧ Room ((w5.alloc (.cells #[.int .u32 0, .slice pv (4 * i) cv, .int .i64 4] 58)).alloc (.cells #[.int .u32 p, .slice pv (4 * i) cv, .int .i64 4] 58)) w5.heap.size c (mA 0 (4 * i) (bytesF bs)) ∧ Room ((w5.alloc (.cells #[.int .u32 0, .slice pv (4 * i) cv, .int .i64 4] 58)).alloc (.cells #[.int .u32 p, .slice pv (4 * i) cv, .int .i64 4] 58)) (w5.heap.size + 1) c (mA p (4 * i) (bytesF bs)) := by
          have hl := HOK.out.len
          obtain ⟨c, h1, h2, h3⟩ := room_at (B := w.heap.size) (by rw [hl]; omega) HOK.out.byte (by rw [hl]; exact HOW.out) (by have := HB1S.out; omega) (fun _ => ⟨_, HSZ.out, Nat.le_refl _⟩)
          have hb := Go.Joins.below_alloc2 w5 (.cells #[.int .u32 0, .slice pv (4 * i) cv, .int .i64 4] 58) (.cells #[.int .u32 p, .slice pv (4 * i) cv, .int .i64 4] 58)
          have hA : ((w5.alloc (.cells #[.int .u32 0, .slice pv (4 * i) cv, .int .i64 4] 58)).alloc (.cells #[.int .u32 p, .slice pv (4 * i) cv, .int .i64 4] 58)).heap[w5.heap.size]? = some (.cells #[.int .u32 0, .slice pv (4 * i) cv, .int .i64 4] 58 (0, 0)) := ((Go.Joins.below_alloc1 (w5.alloc (.cells #[.int .u32 0, .slice pv (4 * i) cv, .int .i64 4] 58)) _).block _ (by simp)).trans (heap_alloc_new w5 _)
          have hB : ((w5.alloc (.cells #[.int .u32 0, .slice pv (4 * i) cv, .int .i64 4] 58)).alloc (.cells #[.int .u32 p, .slice pv (4 * i) cv, .int .i64 4] 58)).heap[w5.heap.size + 1]? = some (.cells #[.int .u32 p, .slice pv (4 * i) cv, .int .i64 4] 58 (0, 0)) := by
            have := heap_alloc_new (w5.alloc (.cells #[.int .u32 0, .slice pv (4 * i) cv, .int .i64 4] 58)) (.cells #[.int .u32 p, .slice pv (4 * i) cv, .int .i64 4] 58)
            rw [World.size_alloc] at this
            exact this
          have r1 := h3 _ w5.heap.size 0 4 (by decide) (by simp; omega) (by omega) (fun k hk => hb.block k hk) hb.size (by rw [cell_of_row _ _ _ _ _ _ hA]; rfl) (by rw [cell_of_row _ _ _ _ _ _ hA]; rfl) (by rw [cell_of_row _ _ _ _ _ _ hA]; rfl)
          have r2 := h3 _ (w5.heap.size + 1) p 4 HP.out.2 (by simp) (by omega) (fun k hk => hb.block k hk) hb.size (by rw [cell_of_row _ _ _ _ _ _ hB]; rfl) (by rw [cell_of_row _ _ _ _ _ _ hB]; rfl) (by rw [cell_of_row _ _ _ _ _ _ hB]; rfl)
          rw [hl] at r1 r2
          exact ⟨c, h1, h2, r1, r2⟩
        obtain ⟨c, hc1, hc2, hq1, hq2⟩ := hrm
        have hb6 := HBW.out.trans ((Go.Joins.below_alloc2 w5 (.cells #[.int .u32 0, .slice pv (4 * i) cv, .int .i64 4] 58) (.cells #[.int .u32 p, .slice pv (4 * i) cv, .int .i64 4] 58)).mono HBW.out.size)
        have hs6 : ((w5.alloc (.cells #[.int .u32 0, .slice pv (4 * i) cv, .int .i64 4] 58)).alloc (.cells #[.int .u32 p, .slice pv (4 * i) cv, .int .i64 4] 58)).heap.size = w5.heap.size + 2 := by simp
        have hword := HOK.out.word
        clear HOK HOW HBW HSZ HB1S
        revert hq1 hq2 hb6 hs6
        generalize (w5.alloc (.cells #[.int .u32 0, .slice pv (4 * i) cv, .int .i64 4] 58)).alloc (.cells #[.int .u32 p, .slice pv (4 * i) cv, .int .i64 4] 58) = W6
        generalize bytesF bs = f at *
        generalize w5.heap.size = n13 at *
        intro hq1 hq2 hb6 hs6
        have hr1 := (row_new W6 zeroG).alloc (.cells (cellsA zeroG) 61)
        have hr2 := row_new (W6.alloc (.cells (cellsA zeroG) 61)) zeroG
        rw [World.size_alloc] at hr2
        have hsA := hr1.store g1
        have hsB := (hr2.setRowO (c := W6.heap.size) (by omega) (cellsA g1)).store ⟨fun _ => 0, p, 1⟩
        have hR1 := (hr1.setRow g1).setRowO (c := W6.heap.size + 1) (by omega) (cellsA ⟨fun _ => 0, p, 1⟩)
        have hR2 := (hr2.setRowO (c := W6.heap.size) (by omega) (cellsA g1)).setRow ⟨fun _ => 0, p, 1⟩
        have hbb : Below W6.heap.size W6 ((((W6.alloc (.cells (cellsA zeroG) 61)).alloc (.cells (cellsA zeroG) 61)).setRow W6.heap.size (cellsA g1)).setRow (W6.heap.size + 1) (cellsA ⟨fun _ => 0, p, 1⟩)) := below_setRow (below_setRow (Go.Joins.below_alloc2 _ _ _) (Nat.le_refl _) _) (by omega) _
        have HT := Lib.hid (⟨by rw [← hs6]; exact hR1, by rw [show n13 + 3 = W6.heap.size + 1 by omega]; exact hR2, hq1.keep hbb, hq2.keep hbb, hb6.trans (hbb.mono hb6.size), hc1, hc2⟩ : Two0 w _ n13 c p (4 * i) f g1 ⟨fun _ => 0, p, 1⟩)
        have HW := Lib.hid hword
        have H20 := Lib.hid hn20
        have HS6 := Lib.hid hs6
        clear hr1 hr2 hR1 hR2 hbb hq1 hq2 hb6 hc1 hc2 hs6 hword hn20
        go_upto_region 18 with fail
        clear hsA hsB
        revert HT
        generalize (((W6.alloc (.cells (cellsA zeroG) 61)).alloc (.cells (cellsA zeroG) 61)).setRow W6.heap.size (cellsA g1)).setRow (W6.heap.size + 1) (cellsA ⟨fun _ => 0, p, 1⟩) = W7
        intro HT
        rw [HS6.out, show n13 + 2 + 1 = n13 + 3 from rfl]
        clear HS6
        go_wp2_with fail
        refine (within_any n 30 _ (by decide) (by decide)).mono ?_
        rintro e w8 ⟨rfl, rfl⟩
        obtain ⟨z, hz⟩ : ∃ z : Nat, n % 30 = z := ⟨(n % 30).toNat, by omega⟩
        have hz30 : z < 30 := by omega
        rw [hz]
        clear hz
        go_wp2_with fail
        go_loopw [97] (fun iv wr => ∃ (j : Nat) (g g' : G), j ≤ z ∧ iv = .int .i64 j ∧ Hid (Two0 w wr n13 c p (4 * i) f g g' ∧ Moved p g g' ∧ Good g ∧ Good g' ∧ g.ring = 1)) (fun iv _ => z - (intOf iv).toNat)
        case atStart =>
          refine ⟨0, g1, ⟨fun _ => 0, p, 1⟩, by omega, rfl, HT.out, ⟨fun _ => rfl, ?_, rfl⟩, good_g1, ⟨fun _ => by show 0 < _; decide, HP.out.2⟩, rfl⟩
          show p = up 0 p
          have := HP.out.2
          unfold up
          omega
        case round =>
          obtain ⟨j, g, g', hj, rfl, HI⟩ := hrel
          by_cases hjz : j < z
          · have hT := two_new HI.out.1
            have HTW := Lib.hid hT
            have HMV := Lib.hid HI.out.2.1
            have HG := Lib.hid HI.out.2.2.1
            have HG' := Lib.hid HI.out.2.2.2.1
            have HRG := Lib.hid HI.out.2.2.2.2
            clear hT HI
            go_upto_region 21 with fail
            revert HTW
            generalize (wr.alloc (.cells #[.int .i64 0, .int .u32 0] 63)).alloc (.cells #[.int .i64 0, .int .u32 0] 63) = W8
            generalize wr.heap.size = d
            intro HTW
            have hl := HTW.out.Z.R.load
            go_wp2_with fail
            refine (step_is HTW.out.Z.Q HG.out (by rw [HRG.out]; decide)).mono ?_
            rintro e w9 ⟨rfl, ho, hq⟩
            have hsm := step_moved (n := 4 * i) (f := f) HP.out.2 HP.out.1 HG.out.pc HMV.out (fun h1 h2 => by
              obtain ⟨jj, hjj, hw⟩ := fetch_word (k := i) rfl (by have := H20.out; omega) HG.out.pc h1
              rw [hw] at h2 ⊢
              obtain ⟨ins, hd1, hd2⟩ := HW.out jj hjj
              rw [hd1]
              exact hd2)
            have hgood := stepF_good HG.out HTW.out.Z.Q.small
            have hring := (stepF_ring g (mA 0 (4 * i) f)).trans HRG.out
            have hgood' := stepF_good HG'.out HTW.out.Z.Q'.small
            have hst2 := fun (wx : World) (h : Room wx (n13 + 1) c (mA p (4 * i) f)) => step_is h HG'.out (by rw [HMV.out.ring, HRG.out]; decide)
            obtain ⟨e1, e2, e3, e4⟩ := hsm
            generalize stepF g (mA 0 (4 * i) f) = o at *
            generalize stepF g' (mA p (4 * i) f) = o' at *
            obtain ⟨og, ot, oa, om⟩ := o
            obtain ⟨og', ot', oa', om'⟩ := o'
            dsimp only at e1 e2 e3 e4 hgood hgood' hring hq
            subst e1
            subst e3
            subst e4
            have hT9 := HTW.out.call1 ho hq
            have hs1 := hT9.Z.R.store og
            have hT9s := hT9.set1 og
            have t0 := hT9s.T.c0
            have t1 := hT9s.T.c1
            have tf := hT9s.T.fz
            have HT9 := Lib.hid hT9s
            have HS2 := Lib.hid hst2
            have HE2 := Lib.hid e2
            have HGD := Lib.hid (And.intro hgood (And.intro hgood' hring))
            clear hl ho hq hT9 hT9s hst2 e2 hgood hgood' hring HTW HMV HG HG' HRG
            go_upto_region 22 with fail
            have hT10 := HT9.out.out1 ot' oa
            clear t0 t1 tf hs1 HT9
            revert hT10
            generalize ((w9.setRow (n13 + 2) (cellsA og)).setCell ⟨d, 0, none⟩ (.int .i64 ot')).setCell ⟨d, 1, none⟩ (.int .u32 oa) = W10
            intro hT10
            have hl := hT10.Z.R'.load
            have HT10 := Lib.hid hT10
            clear hT10
            go_wp2_with fail
            refine (HS2.out _ HT10.out.Z.Q').mono ?_
            rintro e w11 ⟨rfl, ho, hq⟩
            have hT11 := HT10.out.call2 ho hq
            have hs2 := hT11.Z.R'.store og'
            have hT11s := hT11.set2 og'
            have t0 := hT11s.T'.c0
            have t1 := hT11s.T'.c1
            have tf := hT11s.T'.fz
            have HT11 := Lib.hid hT11s
            clear hl ho hq hT11 hT11s HT10 HS2
            go_upto_region 23 with fail
            have hT12 := HT11.out.out2 ot' oa'
            clear t0 t1 tf hs2 HT11
            revert hT12
            generalize ((w11.setRow (n13 + 3) (cellsA og')).setCell ⟨d + 1, 0, none⟩ (.int .i64 ot')).setCell ⟨d + 1, 1, none⟩ (.int .u32 oa') = W12
            intro hT12
            have l1 := hT12.Z.R.load59
            have l2 := hT12.Z.R'.load59
            have hne := neq59 (g := og) (g' := og') (fun i _ => HE2.out.r i)
            have p1 := hT12.Z.R.cpc
            have p2 := hT12.Z.R'.cpc
            have hsp := sub_pc HE2.out.pc HGD.out.1.pc HP.out.2
            have t0 := hT12.T.c0
            have t2 := hT12.T'.c0
            have HT12 := Lib.hid hT12
            clear hT12
            by_cases hz0t : ot' = 0
            · subst hz0t
              go_wp2_with fail
              go_roundw
              case rel => exact ⟨j + 1, og, og', by omega, by go_num, HT12.out.Z, HE2.out, HGD.out.1, HGD.out.2.1, HGD.out.2.2⟩
              case measure => simp [intOf]; omega
            · have hb0 : (ot' != 0) = true := by simpa using hz0t
              go_wp2_with fail
              go_ret
              exact ⟨rfl, HT12.out.Z.B⟩
          · obtain rfl : j = z := by omega
            go_wp2_with fail
            go_ret
            exact ⟨rfl, HI.out.1.B⟩
end Go.Proofs.Ytopadiofanaaiaa.CpuLaw
