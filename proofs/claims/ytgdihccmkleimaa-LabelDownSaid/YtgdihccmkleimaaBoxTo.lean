/- The walks of box.To and box.From. -/
import Derived.Test.YtgdihccmkleimaaBoxWalk
namespace Go.Proofs.Ytgdihccmkleimaa.BoxLaw
open Go.RowKit

theorem ret_tup {a b c d : Value} (h : a = c) (h' : b = d) : Ending.returned (.tuple #[a, b]) = .returned (.tuple #[c, d]) := by rw [h, h']

/-- a slice value that reads as the list -/
def IsL (w : World) (v : Value) (l : List Rg) : Prop :=
  ∃ (a : Option Addr) (cap : Nat), v = .slice a l.length cap ∧ l.length ≤ cap ∧ (l = [] ∨ ∃ b off, a = some ⟨b, off, none⟩ ∧ Lies w b off l)

theorem IsL.below {w w' : World} {v : Value} {l : List Rg} (h : IsL w v l) (hb : Below w.heap.size w w') : IsL w' v l := by
  obtain ⟨a, cap, hv, hl, h⟩ := h
  refine ⟨a, cap, hv, hl, ?_⟩
  rcases h with h | ⟨b, off, ha, hL⟩
  · exact .inl h
  · exact .inr ⟨b, off, ha, hL.below hb hL.lt⟩

theorem check_none (a : Option Addr) (cap : Nat) (w : World) :
    Calls Try.prog 22 #[.slice a 0 cap] w fun e w' => e = .returned (.int .i64 0) ∧ Below w.heap.size w w' := by
  go_enter Try.func22, Try.ntmps22
  go_wp2
  refine wp_loop_rounds 1 ?_
  rw [rounds_succ]
  go_wp2
  go_ret
  exact ⟨rfl, Below.refl _ _⟩

theorem check_is {w : World} {v : Value} {l : List Rg} (h : IsL w v l) :
    Calls Try.prog 22 #[v] w fun e w' => e = .returned (.int .i64 (chk l)) ∧ Below w.heap.size w w' := by
  obtain ⟨a, cap, rfl, hl, h⟩ := h
  rcases h with rfl | ⟨b, off, rfl, hL⟩
  · exact check_none a cap w
  · exact check_any b off cap l w hl hL

theorem to_none (a : Option Addr) (cap : Nat) (x : Int) (w : World) :
    Calls Try.prog 19 #[.slice a 0 cap, .int .i64 x] w fun e w' => e = .returned (.tuple #[.int .i64 0, .int .i64 4]) ∧ Below w.heap.size w w' := by
  go_enter Try.func19, Try.ntmps19
  go_wp2_with (go_at_call 22; refine (check_none _ _ _).mono ?_; rintro e w1 ⟨rfl, hb1⟩)
  refine wp_loop_rounds 1 ?_
  rw [rounds_succ]
  go_wp2
  go_ret2
  exact ⟨rfl, hb1⟩

set_option maxHeartbeats 400000 in
theorem to_some (b off cap : Nat) (l : List Rg) (x : Int) (w : World) (hl : l.length ≤ cap) (hL : Lies w b off l) :
    Calls Try.prog 19 #[.slice (some ⟨b, off, none⟩) l.length cap, .int .i64 x] w fun e w' => e = .returned (.tuple #[.int .i64 (toR l x).1, .int .i64 (toR l x).2]) ∧ Below w.heap.size w w' := by
  have hcheck := check_any b off cap l w hl hL
  obtain ⟨n, hn⟩ : ∃ n, n = l.length := ⟨_, rfl⟩
  rw [← hn] at hl hcheck ⊢
  have HL := Lib.hid hL
  have HN := Lib.hid hn
  have HK := Lib.hid hcheck
  clear hL hn hcheck
  by_cases hc : chk l = 0
  · have hne : (chk l != 0) = false := by simp [hc]
    have h4 := ((chk_zero l).1 hc).1
    rw [← HN.out] at h4
    have HC := Lib.hid hc
    clear hc
    go_enter Try.func19, Try.ntmps19
    go_wp2_with (go_at_call 22; refine HK.out.mono ?_; rintro e w1 ⟨rfl, hb1⟩)
    go_loopw [16] (fun i wr => ∃ k : Nat, k ≤ n ∧ i = .int .i64 k ∧ Below w.heap.size w wr ∧ Hid (∀ j, j < k → inA (l.getD j ⟨0, 0, 0⟩) x = false)) (fun i _ => n - (intOf i).toNat)
    case atStart => exact ⟨0, Nat.zero_le _, rfl, hb1, fun j hj => absurd hj (Nat.not_lt_zero _)⟩
    case round =>
      obtain ⟨k, hk, rfl, hbel, HM⟩ := hrel
      by_cases hlt : k < n
      · obtain ⟨r, hr⟩ : ∃ r, r = l.getD k ⟨0, 0, 0⟩ := ⟨_, rfl⟩
        have hoo := fine_at HC.out k (by rw [← HN.out]; exact hlt)
        have g1 := (hbel.cell (p := ⟨b, off + k * 3, none⟩) HL.out.lt).trans (HL.out.ca k (by rw [← HN.out]; exact hlt))
        have g2 := (hbel.cell (p := ⟨b, off + k * 3 + 1, none⟩) HL.out.lt).trans (HL.out.cb k (by rw [← HN.out]; exact hlt))
        have g3 := (hbel.cell (p := ⟨b, off + k * 3 + 2, none⟩) HL.out.lt).trans (HL.out.cn k (by rw [← HN.out]; exact hlt))
        rw [← hr] at g1 g2 g3 hoo
        obtain ⟨p1, p2, p3, p4, p5, p6⟩ := (okR_iff r).1 hoo
        have HR := Lib.hid hr
        clear hr hoo
        by_cases hlo : r.a ≤ x
        · by_cases hhi : x < r.a + r.n
          · have HI : Hid (inA r x = true) := (inA_iff _ _).2 ⟨hlo, hhi⟩
            go_wp2
            go_ret2
            rw [toR_hit HC.out (toF_hit l k x (by rw [← HN.out]; exact hlt) HM.out (by rw [← HR.out]; exact HI.out)), ← HR.out]
            exact ⟨rfl, hbel.alloc hbel.size _⟩
          · have HI : Hid (inA r x = false) := by
              show _ = _
              simp [inA]; omega
            go_wp2
            go_roundw
            case rel => exact ⟨k + 1, by omega, by go_num, hbel.alloc hbel.size _, fun j hj => by
              rcases Nat.lt_succ_iff_lt_or_eq.1 hj with h | rfl
              · exact HM.out j h
              · rw [← HR.out]; exact HI.out⟩
            case measure => simp [intOf]; omega
        · have HI : Hid (inA r x = false) := by
            show _ = _
            simp [inA]; omega
          go_wp2
          go_roundw
          case rel => exact ⟨k + 1, by omega, by go_num, hbel.alloc hbel.size _, fun j hj => by
            rcases Nat.lt_succ_iff_lt_or_eq.1 hj with h | rfl
            · exact HM.out j h
            · rw [← HR.out]; exact HI.out⟩
          case measure => simp [intOf]; omega
      · go_wp2
        go_ret2
        obtain rfl : k = n := by omega
        rw [toR_miss HC.out (toF_miss l x (fun j hj => HM.out j (by rw [HN.out]; exact hj)))]
        exact ⟨rfl, hbel⟩
  · have hne : (chk l != 0) = true := by simp [hc]
    have HC := Lib.hid hc
    clear hc
    go_enter Try.func19, Try.ntmps19
    go_wp2_with (go_at_call 22; refine HK.out.mono ?_; rintro e w1 ⟨rfl, hb1⟩)
    go_ret2
    rw [toR_bad HC.out]
    exact ⟨rfl, hb1⟩

theorem to_is {w : World} {v : Value} {l : List Rg} (x : Int) (h : IsL w v l) :
    Calls Try.prog 19 #[v, .int .i64 x] w fun e w' => e = .returned (.tuple #[.int .i64 (toR l x).1, .int .i64 (toR l x).2]) ∧ Below w.heap.size w w' := by
  obtain ⟨a, cap, rfl, hl, h⟩ := h
  rcases h with rfl | ⟨b, off, rfl, hL⟩
  · exact to_none a cap x w
  · exact to_some b off cap l x w hl hL

theorem from_none (a : Option Addr) (cap : Nat) (x : Int) (w : World) :
    Calls Try.prog 20 #[.slice a 0 cap, .int .i64 x] w fun e w' => e = .returned (.tuple #[.int .i64 0, .int .i64 4]) ∧ Below w.heap.size w w' := by
  go_enter Try.func20, Try.ntmps20
  go_wp2_with (go_at_call 22; refine (check_none _ _ _).mono ?_; rintro e w1 ⟨rfl, hb1⟩)
  refine wp_loop_rounds 1 ?_
  rw [rounds_succ]
  go_wp2
  go_ret2
  exact ⟨rfl, hb1⟩

set_option maxHeartbeats 400000 in
theorem from_some (b off cap : Nat) (l : List Rg) (x : Int) (w : World) (hl : l.length ≤ cap) (hL : Lies w b off l) :
    Calls Try.prog 20 #[.slice (some ⟨b, off, none⟩) l.length cap, .int .i64 x] w fun e w' => e = .returned (.tuple #[.int .i64 (fromR l x).1, .int .i64 (fromR l x).2]) ∧ Below w.heap.size w w' := by
  have hcheck := check_any b off cap l w hl hL
  obtain ⟨n, hn⟩ : ∃ n, n = l.length := ⟨_, rfl⟩
  rw [← hn] at hl hcheck ⊢
  have HL := Lib.hid hL
  have HN := Lib.hid hn
  have HK := Lib.hid hcheck
  clear hL hn hcheck
  by_cases hc : chk l = 0
  · have hne : (chk l != 0) = false := by simp [hc]
    have h4 := ((chk_zero l).1 hc).1
    rw [← HN.out] at h4
    have HC := Lib.hid hc
    clear hc
    go_enter Try.func20, Try.ntmps20
    go_wp2_with (go_at_call 22; refine HK.out.mono ?_; rintro e w1 ⟨rfl, hb1⟩)
    go_loopw [16] (fun i wr => ∃ k : Nat, k ≤ n ∧ i = .int .i64 k ∧ Below w.heap.size w wr ∧ Hid (∀ j, j < k → inB (l.getD j ⟨0, 0, 0⟩) x = false)) (fun i _ => n - (intOf i).toNat)
    case atStart => exact ⟨0, Nat.zero_le _, rfl, hb1, fun j hj => absurd hj (Nat.not_lt_zero _)⟩
    case round =>
      obtain ⟨k, hk, rfl, hbel, HM⟩ := hrel
      by_cases hlt : k < n
      · obtain ⟨r, hr⟩ : ∃ r, r = l.getD k ⟨0, 0, 0⟩ := ⟨_, rfl⟩
        have hoo := fine_at HC.out k (by rw [← HN.out]; exact hlt)
        have g1 := (hbel.cell (p := ⟨b, off + k * 3, none⟩) HL.out.lt).trans (HL.out.ca k (by rw [← HN.out]; exact hlt))
        have g2 := (hbel.cell (p := ⟨b, off + k * 3 + 1, none⟩) HL.out.lt).trans (HL.out.cb k (by rw [← HN.out]; exact hlt))
        have g3 := (hbel.cell (p := ⟨b, off + k * 3 + 2, none⟩) HL.out.lt).trans (HL.out.cn k (by rw [← HN.out]; exact hlt))
        rw [← hr] at g1 g2 g3 hoo
        obtain ⟨p1, p2, p3, p4, p5, p6⟩ := (okR_iff r).1 hoo
        have HR := Lib.hid hr
        clear hr hoo
        by_cases hlo : r.b ≤ x
        · by_cases hhi : x < r.b + r.n
          · have HI : Hid (inB r x = true) := (inB_iff _ _).2 ⟨hlo, hhi⟩
            go_wp2
            go_ret2
            rw [fromR_hit HC.out (fromF_hit l k x (by rw [← HN.out]; exact hlt) HM.out (by rw [← HR.out]; exact HI.out)), ← HR.out]
            exact ⟨rfl, hbel.alloc hbel.size _⟩
          · have HI : Hid (inB r x = false) := by
              show _ = _
              simp [inB]; omega
            go_wp2
            go_roundw
            case rel => exact ⟨k + 1, by omega, by go_num, hbel.alloc hbel.size _, fun j hj => by
              rcases Nat.lt_succ_iff_lt_or_eq.1 hj with h | rfl
              · exact HM.out j h
              · rw [← HR.out]; exact HI.out⟩
            case measure => simp [intOf]; omega
        · have HI : Hid (inB r x = false) := by
            show _ = _
            simp [inB]; omega
          go_wp2
          go_roundw
          case rel => exact ⟨k + 1, by omega, by go_num, hbel.alloc hbel.size _, fun j hj => by
            rcases Nat.lt_succ_iff_lt_or_eq.1 hj with h | rfl
            · exact HM.out j h
            · rw [← HR.out]; exact HI.out⟩
          case measure => simp [intOf]; omega
      · go_wp2
        go_ret2
        obtain rfl : k = n := by omega
        rw [fromR_miss HC.out (fromF_miss l x (fun j hj => HM.out j (by rw [HN.out]; exact hj)))]
        exact ⟨rfl, hbel⟩
  · have hne : (chk l != 0) = true := by simp [hc]
    have HC := Lib.hid hc
    clear hc
    go_enter Try.func20, Try.ntmps20
    go_wp2_with (go_at_call 22; refine HK.out.mono ?_; rintro e w1 ⟨rfl, hb1⟩)
    go_ret2
    rw [fromR_bad HC.out]
    exact ⟨rfl, hb1⟩

theorem from_is {w : World} {v : Value} {l : List Rg} (x : Int) (h : IsL w v l) :
    Calls Try.prog 20 #[v, .int .i64 x] w fun e w' => e = .returned (.tuple #[.int .i64 (fromR l x).1, .int .i64 (fromR l x).2]) ∧ Below w.heap.size w w' := by
  obtain ⟨a, cap, rfl, hl, h⟩ := h
  rcases h with rfl | ⟨b, off, rfl, hL⟩
  · exact from_none a cap x w
  · exact from_some b off cap l x w hl hL
end Go.Proofs.Ytgdihccmkleimaa.BoxLaw
