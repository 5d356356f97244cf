/- The walks of package wheel at any timers: find, Add, Out of who is not there. The walks of space's let where a page has others, too; Unmap of such pages. -/
import Derived.Test.YtafflkemnniegaaGreatDoorBuD
import Derived.BigQuiet
import Derived.Test.YtafflkemnniegaaGreatDoorKerS
namespace Go.Proofs.YtafflkemnniegaaGreatDoor
open Go.RowKit
set_option linter.unusedVariables false
set_option linter.unusedSimpArgs false
section
variable {w : World} {g cap eb Wh : Nat} {l : List (Int × Int)} {a p : Int}
set_option maxRecDepth 100000 in
set_option maxHeartbeats 400000 in
theorem cloT_is {x b : Int} (c0 : w.cell? ⟨eb, 0, none⟩ = some (.int .i64 p)) : Calls Tryz.prog 230 #[.agg #[.int .u32 x, .int .i64 b], .pointer (some ⟨eb, 0, none⟩)] w fun e w' => e = .returned (.bool (decide (b = p))) ∧ Below w.heap.size w w' := by
  have hal := Go.Joins.below_alloc1 w (.cells #[.int .u32 x, .int .i64 b] 128)
  have hr := row_new w 128 #[.int .u32 x, .int .i64 b]
  have d1 : (w.alloc (.cells #[.int .u32 x, .int .i64 b] 128)).cell? ⟨w.heap.size, 1, none⟩ = some (.int .i64 b) := by rw [hr.cell]; rfl
  have d0 : (w.alloc (.cells #[.int .u32 x, .int .i64 b] 128)).cell? ⟨eb, 0, none⟩ = some (.int .i64 p) := (hal.cell (World.block_lt_of_cell? w _ c0)).trans c0
  have HB := Lib.hid hal
  clear hal hr c0
  go_enter Tryz.func230, Tryz.ntmps230
  go_wp2_with fail
  go_ret
  refine ⟨?_, HB.out⟩
  first | rfl | simp
/-- the timers' cells -/
theorem tim_cells (h : w.ownsRow 0 128 2 (.slice (some ⟨g, 0, none⟩) l.length cap) l.length (tmC l)) {k : Nat} {t : Int × Int} (hk : l[k]? = some t) : w.cell? ⟨g, k * 2, none⟩ = some (.int .u32 t.1) ∧ w.cell? ⟨g, k * 2 + 1, none⟩ = some (.int .i64 t.2) := by
  obtain ⟨h1, h2⟩ := tmC_at l hk
  have e1 := h.cells (g := g) rfl _ _ h1
  have e2 := h.cells (g := g) rfl _ _ h2
  rw [Addr.add_lit, Nat.zero_add] at e1 e2
  exact ⟨e1, e2⟩
set_option maxRecDepth 100000 in
set_option maxHeartbeats 1000000 in
theorem idxT_is (h : w.ownsRow 0 128 2 (.slice (some ⟨g, 0, none⟩) l.length cap) l.length (tmC l)) (hl : l.length ≤ 1000) (c0 : w.cell? ⟨eb, 0, none⟩ = some (.int .i64 p)) (hn : ∀ (k : Nat) (t : Int × Int), l[k]? = some t → t.2 ≠ p) :
    Calls Tryz.prog 229 #[.slice (some ⟨g, 0, none⟩) l.length cap, .func (.func 230) #[] #[.pointer (some ⟨eb, 0, none⟩)]] w fun e w' => e = .returned (.int .i64 (-1)) ∧ Below w.heap.size w w' := by
  have HC : Hid (∀ wx, Below w.heap.size w wx → wx.cell? ⟨eb, 0, none⟩ = some (.int .i64 p) ∧ ∀ (k : Nat) (t : Int × Int), l[k]? = some t → wx.cell? ⟨g, k * 2, none⟩ = some (.int .u32 t.1) ∧ wx.cell? ⟨g, k * 2 + 1, none⟩ = some (.int .i64 t.2)) := Lib.hid fun wx hb => by
    refine ⟨(hb.cell (World.block_lt_of_cell? w _ c0)).trans c0, fun k t hk => ?_⟩
    obtain ⟨h1, h2⟩ := tim_cells h hk
    exact ⟨(hb.cell (World.block_lt_of_cell? w _ h1)).trans h1, (hb.cell (World.block_lt_of_cell? w _ h2)).trans h2⟩
  have HN := Lib.hid hn
  obtain ⟨n, hL⟩ : ∃ n, n = l.length := ⟨_, rfl⟩
  have HL := Lib.hid hL
  have n1 : (n : Int) ≤ 1000 := by omega
  rw [← hL]
  clear h hl c0 hn hL
  go_enter Tryz.func229, Tryz.ntmps229
  go_wp2_with fail
  go_loopw [8] (fun kv wr => ∃ k : Nat, k ≤ n ∧ kv = .int .i64 k ∧ Hid (Below w.heap.size w wr)) (fun kv _ => n - (intOf kv).toNat)
  case atStart => exact ⟨0, Nat.zero_le _, rfl, Lib.hid (Below.refl _ _)⟩
  case round =>
    obtain ⟨k, hk0, rfl, HB⟩ := hrel
    by_cases hk : k < n
    · have i1 : (k : Int) < n := by omega
      obtain ⟨t, ht⟩ : ∃ t, l[k]? = some t := ⟨l[k]'(by have := HL.out; omega), List.getElem?_eq_getElem _⟩
      obtain ⟨d0, d1⟩ := (HC.out wr HB.out).2 k t ht
      have hne := HN.out k t ht
      have HCL := Lib.hid (cloT_is (x := t.1) (b := t.2) (HC.out wr HB.out).1)
      rw [show decide (t.2 = p) = false by simpa using hne] at HCL
      clear ht hne
      generalize t.1 = ta at *
      generalize t.2 = tb at *
      go_wp2_with (go_at_call 230; refine HCL.out.mono ?_; rintro e1 w1 ⟨rfl, hb1⟩; have HB1 := Lib.hid (HB.out.trans (hb1.mono HB.out.size)); clear hb1)
      go_roundw
      case rel => exact ⟨k + 1, by omega, by go_num, HB1⟩
      case measure => simp [intOf]; omega
    · obtain rfl : k = n := by omega
      go_wp2_with fail
      go_ret
      exact ⟨rfl, HB.out⟩
set_option maxRecDepth 100000 in
set_option maxHeartbeats 400000 in
theorem wfindT_is (h : WhlG w Wh a (.slice (some ⟨g, 0, none⟩) l.length cap) l) (hl : l.length ≤ 1000) (hn : ∀ (k : Nat) (t : Int × Int), l[k]? = some t → t.2 ≠ p) : Calls Tryz.prog 147 #[.pointer (some ⟨Wh, 0, none⟩), .int .i64 p] w fun e w' => e = .returned (.int .i64 (-1)) ∧ Below w.heap.size w w' := by
  have hmf : ∀ (fn : Fn) (first cap : Array Value) (w : World), (Instr.makeFunc fn first cap).run Tryz.prog w = .ok (.func fn first cap) w := fun _ _ _ _ => rfl
  have hal := Go.Joins.below_alloc1 w (.cells #[.int .i64 p] 3)
  have c1 : (w.alloc (.cells #[.int .i64 p] 3)).cell? ⟨Wh, 1, none⟩ = some (.slice (some ⟨g, 0, none⟩) l.length cap) := by rw [(h.row.keep hal).cell]; rfl
  have HI := Lib.hid (idxT_is (owns_keep h.own hal) hl (cells1_new w (.int .i64 p) 3 0 _ rfl) hn)
  have HB := Lib.hid hal
  clear h hal hn hl
  generalize l.length = n at *
  go_enter Tryz.func147, Tryz.ntmps147
  go_wp2_with (go_at_call 229; refine HI.out.mono ?_; rintro e1 w1 ⟨rfl, hb1⟩; have HB1 := Lib.hid (HB.out.trans (hb1.mono HB.out.size)); clear hb1)
  go_ret
  exact ⟨rfl, HB1.out⟩
set_option maxRecDepth 100000 in
set_option maxHeartbeats 400000 in
/-- a timer that is not there goes -/
theorem woutT_is (h : WhlG w Wh a (.slice (some ⟨g, 0, none⟩) l.length cap) l) (hl : l.length ≤ 1000) (hn : ∀ (k : Nat) (t : Int × Int), l[k]? = some t → t.2 ≠ p) : Calls Tryz.prog 71 #[.pointer (some ⟨Wh, 0, none⟩), .int .i64 p] w fun e w' => e = .returned (.int .i64 4) ∧ Below w.heap.size w w' := by
  have HF := Lib.hid (wfindT_is h hl hn)
  clear h hl hn
  go_enter Tryz.func71, Tryz.ntmps71
  go_wp2_with (go_at_call 147; refine HF.out.mono ?_; rintro e1 w1 ⟨rfl, hb1⟩; have HB1 := Lib.hid hb1; clear hb1)
  go_ret
  exact ⟨rfl, HB1.out⟩
/-- where a timer is put -/
def posT (t : Int × Int) : List (Int × Int) → Nat
  | [] => 0
  | a :: l => if t.1 < a.1 ∨ (a.1 = t.1 ∧ t.2 < a.2) then 0 else posT t l + 1
def insT (l : List (Int × Int)) (t : Int × Int) : List (Int × Int) := insL l (posT t l) t
theorem posT_le (t : Int × Int) : ∀ l, posT t l ≤ l.length
  | [] => Nat.le_refl _
  | a :: l => by
    unfold posT
    have := posT_le t l
    split
    · simp
    · simp; omega
theorem posT_at (t : Int × Int) : ∀ (l : List (Int × Int)) (k : Nat) (x : Int × Int), k ≤ posT t l → l[k]? = some x → ((t.1 < x.1 ∨ (x.1 = t.1 ∧ t.2 < x.2)) ↔ k = posT t l)
  | [], k, x, hk, hx => by simp at hx
  | a :: l, 0, x, hk, hx => by
    have e : a = x := by simpa using hx
    subst e
    unfold posT
    by_cases h : t.1 < a.1 ∨ (a.1 = t.1 ∧ t.2 < a.2)
    · rw [if_pos h]; exact ⟨fun _ => rfl, fun _ => h⟩
    · rw [if_neg h]; exact ⟨fun q => absurd q h, fun q => by omega⟩
  | a :: l, k + 1, x, hk, hx => by
    have hx : l[k]? = some x := by simpa using hx
    unfold posT at hk ⊢
    by_cases h : t.1 < a.1 ∨ (a.1 = t.1 ∧ t.2 < a.2)
    · rw [if_pos h] at hk; omega
    · rw [if_neg h] at hk ⊢
      have := posT_at t l k x (by omega) hx
      rw [this]
      omega
set_option maxRecDepth 100000 in
set_option maxHeartbeats 2000000 in
theorem waddT_is {b : Int} (h : WhlG w Wh a (.slice (some ⟨g, 0, none⟩) l.length cap) l) (hl : l.length ≤ 200) (hn : ∀ (k : Nat) (t : Int × Int), l[k]? = some t → t.2 ≠ p) (ht : ∀ (k : Nat) (t : Int × Int), l[k]? = some t → 0 ≤ t.1 ∧ t.1 < 1000000000) (a0 : 0 ≤ a) (ab : a ≤ b) (b1 : b < 1000000000) :
    Calls Tryz.prog 221 #[.pointer (some ⟨Wh, 0, none⟩), .int .u32 b, .int .i64 p] w fun e w' => e = .returned (.int .i64 0) ∧ ∃ v, WhlG w' Wh a v (insT l (b, p)) ∧ Upd (wB Wh (.slice (some ⟨g, 0, none⟩) l.length cap)) w w' ∧ ∀ j, v.ownBlock = some j → (Value.slice (some ⟨g, 0, none⟩) l.length cap).ownBlock = some j ∨ w.heap.size ≤ j := by
  have HH := Lib.hid h
  have HFI := Lib.hid (wfindT_is h (by omega) hn)
  have i0 : ¬ b - a < 0 := by omega
  have HAB := Lib.hid (And.intro a0 (And.intro ab b1))
  have HT := Lib.hid ht
  have HW : Hid (∀ wx, Below w.heap.size w wx → WhlG wx Wh a (.slice (some ⟨g, 0, none⟩) l.length cap) l) := Lib.hid fun wx hb => h.keepB hb
  obtain ⟨L, hL⟩ : ∃ L, L = l.length := ⟨_, rfl⟩
  have HL := Lib.hid hL
  have L1 : (L : Int) ≤ 200 := by omega
  obtain ⟨n, hnn⟩ : ∃ n, n = posT (b, p) l := ⟨_, rfl⟩
  have HN := Lib.hid hnn
  have n1 : n ≤ L := by rw [hnn, hL]; exact posT_le _ l
  rw [← hL] at HW
  rw [← hL]
  clear h hl hn ht a0 ab b1 hL hnn
  go_enter Tryz.func221, Tryz.ntmps221
  go_upto_region 3 with (go_at_call 147; refine HFI.out.mono ?_; rintro e1 w1 ⟨rfl, hb1⟩; have HB1 := Lib.hid hb1; clear hb1)
  have hW1 := HW.out w1 HB1.out
  have c0 := hW1.row.cell 0
  have HF := Lib.hid (fun wx => far_is HAB.out.1 (by have := HAB.out; omega) (by have := HAB.out; omega : 0 ≤ b) HAB.out.2.2 wx)
  clear hW1
  go_upto_region 6 with (go_at_call 52; refine (HF.out _).mono ?_; rintro e2 w2 ⟨rfl, rfl⟩)
  clear c0 HFI
  go_loopw [7] (fun kv wr => ∃ k : Nat, k ≤ n ∧ kv = .int .i64 k ∧ Hid (Below w.heap.size w wr)) (fun kv _ => n - (intOf kv).toNat)
  case atStart => exact ⟨0, Nat.zero_le _, rfl, HB1⟩
  case round =>
    clear HB1
    obtain ⟨k, hk0, rfl, HB⟩ := hrel
    have hW := HW.out wr HB.out
    have c0 := hW.row.cell 0
    have c1 := hW.row.cell 1
    by_cases hkL : k < L
    · have i1 : (k : Int) < L := by omega
      obtain ⟨t, ht⟩ : ∃ t, l[k]? = some t := ⟨l[k]'(by have := HL.out; omega), List.getElem?_eq_getElem _⟩
      have hpos := posT_at (b, p) l k t (by have := HN.out; omega) ht
      rw [← HN.out] at hpos
      obtain ⟨u0, u1⟩ := HT.out k t ht
      have hWl := hW
      rw [HL.out] at hWl
      obtain ⟨q0, q1⟩ := tim_cells hWl.own ht
      have HT2 := Lib.hid (And.intro u0 u1)
      have hpos : (b < t.1 ∨ (t.1 = b ∧ p < t.2)) ↔ k = n := hpos
      clear hWl ht hW u0 u1
      generalize t.1 = ta at *
      generalize t.2 = tb at *
      have HCL : Hid (∀ wx, Below wr.heap.size wr wx → wx.cell? ⟨Wh, 1, none⟩ = some (.slice (some ⟨g, 0, none⟩) L cap) ∧ wx.cell? ⟨g, k * 2 + 1, none⟩ = some (.int .i64 tb)) := Lib.hid fun wx hb => ⟨(hb.cell (World.block_lt_of_cell? wr _ c1)).trans c1, (hb.cell (World.block_lt_of_cell? wr _ q1)).trans q1⟩
      clear q1
      go_upto_region 7 with fail
      go_quiet (first | (go_at_call 52; with_reducible refine Calls.quiet_of_same ((far_is HAB.out.1 (by have := HAB.out; omega) HT2.out.1 HT2.out.2 _).mono (fun e w' h => ⟨h.1, h.2.symm⟩))) | (go_at_call 52; with_reducible refine Calls.quiet_of_same ((HF.out _).mono (fun e w' h => ⟨h.1, h.2.symm⟩))))
      have hbd : Below wr.heap.size wr (wr.drewN nq) := below_drewN (Below.refl _ _) nq
      have HB2 := Lib.hid (HB.out.trans (hbd.mono HB.out.size))
      obtain ⟨c1', q1'⟩ := HCL.out _ hbd
      clear hbd c0 c1 q0 HB HCL
      generalize wr.drewN nq = wd at *
      have hd : wrap64 (ta - a - (b - a)) = ta - b := by have := HAB.out; have := HT2.out; unfold wrap64; omega
      by_cases h1 : b < ta
      · obtain rfl : k = n := hpos.1 (.inl h1)
        have j1 : 0 < ta - b := by omega
        clear h1 hpos
        go_upto_region 10 with (simp only [hd])
        have hWx := HW.out wd HB2.out
        have c1 := hWx.row.cell 1
        have HA := Lib.hid (Go.Joins.below_alloc1 wd (.cells #[.int .u32 b, .int .i64 p] 128))
        have hown := owns_keep hWx.own HA.out
        rw [HL.out] at hown
        have hgl := hWx.own.lt g rfl
        have hi := insertT_is hown (by have := HL.out; omega) (row_new wd 128 #[.int .u32 b, .int .i64 p]) (by omega) (i := k) (by have := HL.out; omega)
        rw [← HL.out] at hi
        have HI := Lib.hid hi
        have HX := Lib.hid hWx
        clear hWx hown hgl hi
        go_wp2_with (go_at_call 291; refine HI.out.mono ?_; rintro e3 w3 ⟨q3, c3, rfl, ho3, hu3, hf3⟩; have HU3 := Lib.hid hu3; have HO3 := Lib.hid ho3; have HF3 := Lib.hid hf3; have HR3 := Lib.hid ((HX.out.row.keep HA.out).upd hu3 (fun e => HX.out.ne (by show some g = some Wh; rw [e]))); have f1 := HR3.out.fz 1; have d1 := HR3.out.cell 1; clear ho3 hu3 hf3)
        go_ret
        obtain ⟨v, hv⟩ : ∃ v : Value, v = .slice q3 (insL l k (b, p)).length c3 := ⟨_, rfl⟩
        rw [← hv] at HO3 HF3 ⊢
        have hne : v.ownBlock ≠ some Wh := fun e => by
          rcases HF3.out Wh e with q | q
          · exact HX.out.ne (by show some g = some Wh; rw [q])
          · have h2 := HX.out.row.lt
            have := HA.out.size
            omega
        have hs := HR3.out.setCell 1 v
        have hu : Upd (wB Wh (.slice (some ⟨g, 0, none⟩) L cap)) w (w3.setCell ⟨Wh, 1, none⟩ v) := (((Upd.below HB2.out).trans (Upd.below HA.out)).trans (HU3.out.mono fun j _ e => .inr (by show some g = some j; rw [e]))).trans (Upd.set _ _ (.inl rfl))
        have e0 : insT l (b, p) = insL l k (b, p) := by unfold insT; rw [← HN.out]
        refine ⟨rfl, v, ⟨?_, ?_, hne⟩, hu, fun j hj => (HF3.out j hj).elim (fun e => .inl (by show some g = some j; rw [e])) (fun e => .inr (Nat.le_trans (Nat.le_trans HB2.out.size HA.out.size) e))⟩
        · rw [hs]
          exact HR3.out.setRow _
        · rw [e0]
          exact (Upd.set (S := fun j => j = Wh) w3 v rfl).owns HO3.out (fun g hg e => hne (by rw [hg, e]))
      · by_cases h2 : ta = b ∧ p < tb
        · obtain rfl : k = n := hpos.1 (.inr h2)
          obtain ⟨h2, h3⟩ := h2
          have j1 : ¬ 0 < ta - b := by omega
          have j2 : ta - b = 0 := by omega
          clear h1 hpos
          go_upto_region 10 with (simp only [hd])
          have hWx := HW.out wd HB2.out
          have c1 := hWx.row.cell 1
          have HA := Lib.hid (Go.Joins.below_alloc1 wd (.cells #[.int .u32 b, .int .i64 p] 128))
          have hown := owns_keep hWx.own HA.out
          rw [HL.out] at hown
          have hgl := hWx.own.lt g rfl
          have hi := insertT_is hown (by have := HL.out; omega) (row_new wd 128 #[.int .u32 b, .int .i64 p]) (by omega) (i := k) (by have := HL.out; omega)
          rw [← HL.out] at hi
          have HI := Lib.hid hi
          have HX := Lib.hid hWx
          clear hWx hown hgl hi
          go_wp2_with (go_at_call 291; refine HI.out.mono ?_; rintro e3 w3 ⟨q3, c3, rfl, ho3, hu3, hf3⟩; have HU3 := Lib.hid hu3; have HO3 := Lib.hid ho3; have HF3 := Lib.hid hf3; have HR3 := Lib.hid ((HX.out.row.keep HA.out).upd hu3 (fun e => HX.out.ne (by show some g = some Wh; rw [e]))); have f1 := HR3.out.fz 1; have d1 := HR3.out.cell 1; clear ho3 hu3 hf3)
          go_ret
          obtain ⟨v, hv⟩ : ∃ v : Value, v = .slice q3 (insL l k (b, p)).length c3 := ⟨_, rfl⟩
          rw [← hv] at HO3 HF3 ⊢
          have hne : v.ownBlock ≠ some Wh := fun e => by
            rcases HF3.out Wh e with q | q
            · exact HX.out.ne (by show some g = some Wh; rw [q])
            · have h2 := HX.out.row.lt
              have := HA.out.size
              omega
          have hs := HR3.out.setCell 1 v
          have hu : Upd (wB Wh (.slice (some ⟨g, 0, none⟩) L cap)) w (w3.setCell ⟨Wh, 1, none⟩ v) := (((Upd.below HB2.out).trans (Upd.below HA.out)).trans (HU3.out.mono fun j _ e => .inr (by show some g = some j; rw [e]))).trans (Upd.set _ _ (.inl rfl))
          have e0 : insT l (b, p) = insL l k (b, p) := by unfold insT; rw [← HN.out]
          refine ⟨rfl, v, ⟨?_, ?_, hne⟩, hu, fun j hj => (HF3.out j hj).elim (fun e => .inl (by show some g = some j; rw [e])) (fun e => .inr (Nat.le_trans (Nat.le_trans HB2.out.size HA.out.size) e))⟩
          · rw [hs]
            exact HR3.out.setRow _
          · rw [e0]
            exact (Upd.set (S := fun j => j = Wh) w3 v rfl).owns HO3.out (fun g hg e => hne (by rw [hg, e]))
        · have hkn : k ≠ n := fun e => by
            rcases hpos.2 e with q | q
            · exact h1 q
            · exact h2 q
          by_cases h3 : ta = b
          · have j1 : ¬ 0 < ta - b := by omega
            have j2 : ta - b = 0 := by omega
            have j3 : ¬ p < tb := fun e => h2 ⟨h3, e⟩
            go_wp2_with (simp only [hd])
            go_roundw
            case rel => exact ⟨k + 1, by omega, by go_num, HB2⟩
            case measure => simp [intOf]; omega
          · have j1 : ¬ 0 < ta - b := by omega
            have j2 : ¬ ta - b = 0 := by omega
            go_wp2_with (simp only [hd])
            go_roundw
            case rel => exact ⟨k + 1, by omega, by go_num, HB2⟩
            case measure => simp [intOf]; omega
    · obtain rfl : k = L := by omega
      obtain rfl : k = n := by omega
      clear hW c0
      have i1 : ¬ (k : Int) < k := by omega
      go_upto_region 10 with fail
      clear c1
      have hWx := HW.out wr HB.out
      have c1 := hWx.row.cell 1
      have HA := Lib.hid (Go.Joins.below_alloc1 wr (.cells #[.int .u32 b, .int .i64 p] 128))
      have hown := owns_keep hWx.own HA.out
      rw [HL.out] at hown
      have hgl := hWx.own.lt g rfl
      have hi := insertT_is hown (by have := HL.out; omega) (row_new wr 128 #[.int .u32 b, .int .i64 p]) (by omega) (i := k) (by have := HL.out; omega)
      rw [← HL.out] at hi
      have HI := Lib.hid hi
      have HX := Lib.hid hWx
      clear hWx hown hgl hi
      go_wp2_with (go_at_call 291; refine HI.out.mono ?_; rintro e3 w3 ⟨q3, c3, rfl, ho3, hu3, hf3⟩; have HU3 := Lib.hid hu3; have HO3 := Lib.hid ho3; have HF3 := Lib.hid hf3; have HR3 := Lib.hid ((HX.out.row.keep HA.out).upd hu3 (fun e => HX.out.ne (by show some g = some Wh; rw [e]))); have f1 := HR3.out.fz 1; have d1 := HR3.out.cell 1; clear ho3 hu3 hf3)
      go_ret
      obtain ⟨v, hv⟩ : ∃ v : Value, v = .slice q3 (insL l k (b, p)).length c3 := ⟨_, rfl⟩
      rw [← hv] at HO3 HF3 ⊢
      have hne : v.ownBlock ≠ some Wh := fun e => by
        rcases HF3.out Wh e with q | q
        · exact HX.out.ne (by show some g = some Wh; rw [q])
        · have h2 := HX.out.row.lt
          have := HA.out.size
          omega
      have hs := HR3.out.setCell 1 v
      have hu : Upd (wB Wh (.slice (some ⟨g, 0, none⟩) k cap)) w (w3.setCell ⟨Wh, 1, none⟩ v) := (((Upd.below HB.out).trans (Upd.below HA.out)).trans (HU3.out.mono fun j _ e => .inr (by show some g = some j; rw [e]))).trans (Upd.set _ _ (.inl rfl))
      have e0 : insT l (b, p) = insL l k (b, p) := by unfold insT; rw [← HN.out]
      refine ⟨rfl, v, ⟨?_, ?_, hne⟩, hu, fun j hj => (HF3.out j hj).elim (fun e => .inl (by show some g = some j; rw [e])) (fun e => .inr (Nat.le_trans (Nat.le_trans HB.out.size HA.out.size) e))⟩
      · rw [hs]
        exact HR3.out.setRow _
      · rw [e0]
        exact (Upd.set (S := fun j => j = Wh) w3 v rfl).owns HO3.out (fun g hg e => hne (by rw [hg, e]))
end
end Go.Proofs.YtafflkemnniegaaGreatDoor
namespace Go.Proofs.YtafflkemnniegaaGreatDoor
open Go.RowKit Go.Maps
set_option linter.unusedVariables false
set_option linter.unusedSimpArgs false
section
variable {w w' wr : World} {M so g b : Nat} {fr sl : Int} {m m' : MS}
theorem IMap.del {n : Nat} {f : Int → Option (Nat × Int)} {D : DataW Unit} {w2 : World} {k : Int} (ho : w2.ownsMap Tryz.prog 3 redE b n (D.del (.int .i64 k))) (hm : IsMap D) (hf : ∀ k, D.atKey (.int .i64 k) .nil = datE (f k) ∧ Maps.has D (.int .i64 k) = (f k).isSome) : IMap w2 b n (fun j => if j = k then none else f j) := by
  refine ⟨_, ho, hm.del _, fun j => ?_⟩
  by_cases e : j = k
  · subst e
    rw [atKey_del_same, has_del_same]
    simp [datE]
  · rw [atKey_del_other (lit_ne e), has_del_other (lit_ne e)]
    dsimp only
    rw [if_neg e]
    exact hf j
set_option maxRecDepth 100000 in
set_option maxHeartbeats 1000000 in
theorem letS_is (h : MemG w M so fr sl m) (hg : g ∈ m.pl) {u : Int} (hu : m.u g = u) (u2 : 2 ≤ u) (ub : u < 1000000) (r : Int) : Calls Tryz.prog 101 #[.pointer (some ⟨M, 0, none⟩), .agg #[.pointer (some ⟨g, 0, none⟩), .int .i64 r]] w fun e w' => e = .returned (.tuple #[]) ∧ MemG w' M so fr sl { m with u := fup m.u g (u - 1) } ∧ Upd (fun k => k = g) w w' := by
  have hal := Go.Joins.below_alloc1 w (.cells #[.pointer (some ⟨g, 0, none⟩), .int .i64 r] 234)
  have hr1 := row_new w 234 #[.pointer (some ⟨g, 0, none⟩), .int .i64 r]
  have h1 := h.keep hal
  have hge : g ≠ w.heap.size := fun e => by have := h.lt (.inr (.inr (.inr (.inr hg)))); omega
  have hge' : w.heap.size ≠ g := fun e => hge e.symm
  have p1 := h1.pg g hg
  have q16 := p1.us
  rw [hu] at q16
  have f16 := p1.fz 16
  have e0 : (w.alloc (.cells #[.pointer (some ⟨g, 0, none⟩), .int .i64 r] 234)).cell? ⟨w.heap.size, 0, none⟩ = some (.pointer (some ⟨g, 0, none⟩)) := by rw [hr1.cell]; rfl
  have h2 := h1.page (w' := (w.alloc (.cells #[.pointer (some ⟨g, 0, none⟩), .int .i64 r] 234)).setCell ⟨g, 16, none⟩ (.int .i64 (u - 1))) hg (Upd.set _ _ rfl) (p1.users (u - 1))
  rw [MS.us] at h2
  have HM := Lib.hid h2
  have HU : Hid (Upd (fun k => k = g) w ((w.alloc (.cells #[.pointer (some ⟨g, 0, none⟩), .int .i64 r] 234)).setCell ⟨g, 16, none⟩ (.int .i64 (u - 1)))) := Lib.hid ((Upd.below hal).trans (Upd.set _ _ rfl))
  have e2 : ((w.alloc (.cells #[.pointer (some ⟨g, 0, none⟩), .int .i64 r] 234)).setCell ⟨g, 16, none⟩ (.int .i64 (u - 1))).cell? ⟨w.heap.size, 0, none⟩ = some (.pointer (some ⟨g, 0, none⟩)) := set_blk hge' e0
  have q16b : ((w.alloc (.cells #[.pointer (some ⟨g, 0, none⟩), .int .i64 r] 234)).setCell ⟨g, 16, none⟩ (.int .i64 (u - 1))).cell? ⟨g, 16, none⟩ = some (.int .i64 (u - 1)) := set_same q16
  have y1 : IntKind.i64.wrap (u - 1) = u - 1 := IntWalk.i64_in _ (by omega)
  have n0 : ¬ u - 1 = 0 := by omega
  clear h hu hg hal h1 p1 h2
  go_enter Tryz.func101, Tryz.ntmps101
  go_upto_region 2 with fail
  generalize hw2 : (w.alloc (.cells #[.pointer (some ⟨g, 0, none⟩), .int .i64 r] 234)).setCell ⟨g, 16, none⟩ (.int .i64 (u - 1)) = w2 at *
  clear hw2 hr1 q16 f16 e0
  go_wp2_with fail
  (try simp only [Exit.inBlock, Exit.then]); first | (refine bodyPost_ret (results_none rfl _ _ _) rfl ?_) | (refine bodyPost_end (results_none rfl _ _ _) rfl ?_)
  exact ⟨rfl, HM.out, HU.out⟩
/-- the state behind Unmap of the first k pages, which others have, too -/
structure Unm (m m' : MS) (b : Nat) (k : Int) : Prop where
  pl : m'.pl = m.pl
  pv : m'.pv = m.pv
  S : m'.S = m.S
  nS : m'.nS = m.nS
  F : m'.F = fup m.F b (fun j => if 0 ≤ j ∧ j < k then none else m.F b j)
  nF : m'.nF = m.nF
  d : m'.d = m.d
  h : m'.h = m.h
  u0 : ∀ g, (∃ j r, 0 ≤ j ∧ j < k ∧ m.F b j = some (g, r)) → m'.u g = m.u g - 1
  u1 : ∀ g, (¬ ∃ j r, 0 ≤ j ∧ j < k ∧ m.F b j = some (g, r)) → m'.u g = m.u g
theorem Unm.start (m : MS) (b : Nat) : Unm m m b 0 := by
  refine ⟨rfl, rfl, rfl, rfl, ?_, rfl, rfl, rfl, fun g hg => ?_, fun _ _ => rfl⟩
  · rw [fup_id]
    funext j
    rw [if_neg (by omega)]
  · obtain ⟨j, r, h1, h2, -⟩ := hg
    omega
theorem Unm.gap {k : Int} (h : Unm m m' b k) (h0 : 0 ≤ k) (hk : m.F b k = none) : Unm m m' b (k + 1) := by
  refine ⟨h.pl, h.pv, h.S, h.nS, ?_, h.nF, h.d, h.h, fun g hg => ?_, fun g hg => ?_⟩
  · rw [h.F]
    congr 1
    funext j
    by_cases e : j = k
    · subst e; rw [hk]; simp
    · by_cases e2 : 0 ≤ j ∧ j < k
      · rw [if_pos e2, if_pos (by omega)]
      · rw [if_neg e2, if_neg (by omega)]
  · obtain ⟨j, r, h1, h2, h3⟩ := hg
    refine h.u0 g ⟨j, r, h1, ?_, h3⟩
    rcases Int.lt_or_eq_of_le (Int.lt_add_one_iff.1 h2) with q | q
    · exact q
    · rw [q, hk] at h3; cases h3
  · exact h.u1 g fun ⟨j, r, h1, h2, h3⟩ => hg ⟨j, r, h1, by omega, h3⟩
theorem Unm.met {k r : Int} (h : Unm m m' b k) (h0 : 0 ≤ k) (hk : m.F b k = some (g, r)) (ha : Lone (m.F b)) : m'.u g = m.u g ∧ Unm m { m' with u := fup m'.u g (m.u g - 1), nF := fup m'.nF b (m'.nF b), F := fup m'.F b (fun j => if j = k then none else m'.F b j) } b (k + 1) := by
  have e0 : m'.u g = m.u g := h.u1 g fun ⟨j, r', h1, h2, h3⟩ => by
    have := ha j k g r' r h3 hk
    omega
  refine ⟨e0, h.pl, h.pv, h.S, h.nS, ?_, ?_, h.d, h.h, fun q hq => ?_, fun q hq => ?_⟩
  · show fup m'.F b _ = _
    rw [h.F]
    funext q
    unfold fup
    by_cases e : q = b
    · simp only [if_pos e, if_true]
      funext j
      by_cases e1 : j = k
      · rw [if_pos e1, if_pos (by omega)]
      · rw [if_neg e1]
        by_cases e2 : 0 ≤ j ∧ j < k
        · rw [if_pos e2, if_pos (by omega)]
        · rw [if_neg e2, if_neg (by omega)]
    · simp only [if_neg e]
  · show fup m'.nF b _ = _
    rw [fup_id _ _ _ rfl, h.nF]
  · show fup m'.u g _ q = _
    by_cases e : q = g
    · subst e; rw [fup_same]
    · rw [fup_off _ _ e]
      obtain ⟨j, r', h1, h2, h3⟩ := hq
      refine h.u0 q ⟨j, r', h1, ?_, h3⟩
      rcases Int.lt_or_eq_of_le (Int.lt_add_one_iff.1 h2) with z | z
      · exact z
      · rw [z, hk] at h3; injection h3 with h3; injection h3 with h3; exact absurd h3.symm e
  · show fup m'.u g _ q = _
    have e : q ≠ g := fun e => hq ⟨k, r, h0, by omega, by rw [e]; exact hk⟩
    rw [fup_off _ _ e]
    exact h.u1 q fun ⟨j, r', h1, h2, h3⟩ => hq ⟨j, r', h1, by omega, h3⟩
set_option maxRecDepth 100000 in
set_option maxHeartbeats 1000000 in
theorem unmap_is (h : MemG w M so fr sl m) {s : Int} {n : Nat} (hs : m.S s = some b) (hwf : (Lit.int .i64 s).wf = true) (n1 : 1 ≤ n) (n64 : n ≤ 64) (ha : Lone (m.F b)) (hpl : ∀ k g r, 0 ≤ k → k < n → m.F b k = some (g, r) → g ∈ m.pl ∧ 2 ≤ m.u g ∧ m.u g < 1000000) :
    Calls Tryz.prog 43 #[.pointer (some ⟨M, 0, none⟩), .int .i64 s, .int .i64 0, .int .i64 n] w fun e w' => e = .returned (.int .i64 0) ∧ ∃ m', Unm m m' b n ∧ MemG w' M so fr sl m' ∧ Upd (mB M so m) w w' := by
  have HSP := Lib.hid (spanG_is h hs hwf (a := 0) (n := n) (r := 0) (by decide) (by decide) (by omega) (by omega) (by decide) (by decide))
  have HM := Lib.hid h
  have HS := Lib.hid (And.intro hs (And.intro hwf (And.intro ha hpl)))
  have HB : Hid (b < w.heap.size ∧ ∀ g, g ∈ m.pl → g < w.heap.size) := Lib.hid ⟨h.lt (.inr (.inr (.inr (.inl ⟨s, hs⟩)))), fun g hg => h.lt (.inr (.inr (.inr (.inr hg))))⟩
  have y0 : IntKind.i64.wrap (n : Int) = n := IntWalk.i64_in (n : Int) (by omega)
  clear h hs hwf ha hpl
  go_enter Tryz.func43, Tryz.ntmps43
  go_upto_region 4 with (go_at_call 100; refine HSP.out.mono ?_; rintro e1 w1 ⟨rfl, rfl⟩)
  clear HSP
  go_wp2_with fail
  go_loopw [10] (fun kv wr => ∃ k : Nat, k ≤ n ∧ kv = .int .i64 k ∧ Hid (∃ m', Unm m m' b k ∧ MemG wr M so fr sl m' ∧ Upd (mB M so m) w wr)) (fun kv _ => n - (intOf kv).toNat)
  case atStart => exact ⟨0, Nat.zero_le _, rfl, Lib.hid ⟨m, Unm.start m b, HM.out, Upd.refl _ _⟩⟩
  case round =>
    obtain ⟨k, hk0, rfl, HR⟩ := hrel
    by_cases hk : k < n
    · have i1 : (k : Int) < n := by omega
      obtain ⟨m', hun, hmm, huu⟩ := HR.out
      have hmS : m'.S s = some b := by rw [hun.S]; exact HS.out.1
      have HS' := Lib.hid hmS
      have m4 := hmm.m4
      have l1 := hmm.om.look HS.out.2.1
      rw [hmS] at l1
      change _ = Result.ok (Value.map (some b)) wr at l1
      have l2 := (hmm.im s b hmS).look_ok (k := (k : Int)) (WalkArith.wf_i64 (by omega))
      have hFk : m'.F b k = m.F b k := by rw [hun.F, fup_same, if_neg (by omega)]
      rw [hFk] at l2
      have HUN := Lib.hid hun
      have HMM := Lib.hid hmm
      have HUU := Lib.hid huu
      have HFK := Lib.hid hFk
      clear HR hun hmm huu hmS hFk
      cases hq : m.F b k with
      | none =>
        rw [hq] at l2
        change _ = Result.ok (Value.tuple #[.agg #[.pointer none, .int .i64 0], .bool false]) wr at l2
        have HQ := Lib.hid hq
        have HK : Hid (∃ m', Unm m m' b ((k : Int) + 1) ∧ MemG (wr.alloc (.cells #[.pointer none, .int .i64 0] 234)) M so fr sl m' ∧ Upd (mB M so m) w (wr.alloc (.cells #[.pointer none, .int .i64 0] 234))) := Lib.hid ⟨m', HUN.out.gap (by omega) HQ.out, HMM.out.keep (Go.Joins.below_alloc1 wr _), HUU.out.trans (Upd.below (Go.Joins.below_alloc1 wr _))⟩
        clear hq HQ
        go_wp2_with fail
        go_roundw
        case rel => exact ⟨k + 1, by omega, by go_num, by have := HK.out; exact_mod_cast this⟩
        case measure => simp [intOf]; omega
      | some gr =>
        obtain ⟨g, r⟩ := gr
        rw [hq] at l2
        change _ = Result.ok (Value.tuple #[.agg #[.pointer (some ⟨g, 0, none⟩), .int .i64 r], .bool true]) wr at l2
        have HQ := Lib.hid hq
        clear hq
        obtain ⟨hg, u2, ub⟩ := HS.out.2.2.2 k g r (by omega) (by omega) HQ.out
        obtain ⟨e0, hnx⟩ := HUN.out.met (by omega) HQ.out HS.out.2.2.1
        have HNX := Lib.hid hnx
        have HG := Lib.hid hg
        have HL := Lib.hid (letS_is (HMM.out.keep (Go.Joins.below_alloc1 wr (.cells #[.pointer (some ⟨g, 0, none⟩), .int .i64 r] 234))) (g := g) (by rw [HUN.out.pl]; exact hg) e0 u2 ub r)
        clear hg u2 ub e0 hnx
        go_upto_region 10 with (go_at_call 101; refine HL.out.mono ?_; rintro e3 w3 ⟨rfl, hm3, hu3⟩; have HM3 := Lib.hid hm3; have HU3 := Lib.hid ((Upd.below (Go.Joins.below_alloc1 wr (.cells #[.pointer (some ⟨g, 0, none⟩), .int .i64 r] 234))).trans hu3); clear hm3 hu3)
        clear m4 l1 l2 HL
        have m4 := HM3.out.m4
        have l1 := HM3.out.om.look HS.out.2.1
        rw [show ({ m' with u := fup m'.u g (m.u g - 1) } : MS).S s = some b from HS'.out] at l1
        change _ = Result.ok (Value.map (some b)) w3 at l1
        obtain ⟨D, hD, hmD, hfD⟩ := HM3.out.im s b HS'.out
        have HFD := Lib.hid (And.intro hmD hfD)
        clear hmD hfD
        have hkey : keyOf Tryz.prog 3 (.int .i64 (k : Int)) = some (.int .i64 (k : Int)) := keyOf_int_mk Tryz.underlying3 (WalkArith.wf_i64 (by omega))
        go_wp2_with (first | (at_delete; refine wpList_delete_own _ rfl _ _ 225 3 rfl _ keyed3 Tryz.underlying225 redE b _ D rfl hD _ _ rfl hkey ?_; intro w4 hown4 hturn4) | fail)
        have HI4 := Lib.hid (IMap.del hown4 HFD.out.1 HFD.out.2)
        have HU4 : Hid (Upd (fun k => k = b) w3 w4) := Lib.hid (Upd.grown hturn4.grown rfl)
        clear hown4 hturn4 hD hkey m4 l1
        have HK : Hid (∃ m', Unm m m' b ((k : Int) + 1) ∧ MemG w4 M so fr sl m' ∧ Upd (mB M so m) w w4) := Lib.hid ⟨_, HNX.out, HM3.out.space HS'.out HU4.out HI4.out, (HUU.out.trans (HU3.out.mono fun q _ e => .inr (.inr (.inr (.inr (by rw [e]; exact HG.out)))))).trans (HU4.out.mono fun q _ e => .inr (.inr (.inr (.inl ⟨s, by rw [e]; exact HS.out.1⟩))))⟩
        go_roundw
        case rel => exact ⟨k + 1, by omega, by go_num, by have := HK.out; exact_mod_cast this⟩
        case measure => simp [intOf]; omega
    · obtain rfl : k = n := by omega
      go_wp2_with fail
      go_ret
      exact ⟨rfl, HR.out⟩
end
end Go.Proofs.YtafflkemnniegaaGreatDoor
