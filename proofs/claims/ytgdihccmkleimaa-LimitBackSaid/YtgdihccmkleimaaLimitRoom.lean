/- The walk of limit.Room; Take and Give of whatever slice. -/
import Derived.Test.YtgdihccmkleimaaLimitGive
namespace Go.Proofs.Ytgdihccmkleimaa.LimitLaw
open Go.RowKit
open BoxLaw (Rg Lies IsL cellsR cellsR_at cellsR_length)
set_option linter.unusedVariables false

theorem roomR_bad {l : List Rg} {k : Int} (h : ¬ chkT l = 0) : roomR l k = (0, chkT l) := by rw [roomR, if_neg h]
theorem roomR_arg {l : List Rg} {k : Int} (h : chkT l = 0) (h2 : ¬ (0 ≤ k ∧ k < l.length)) : roomR l k = (0, 1) := by rw [roomR, if_pos h, if_neg h2]
theorem roomR_some {l : List Rg} {k : Int} (h : chkT l = 0) (h2 : 0 ≤ k ∧ k < l.length) : roomR l k = (roomGo l (l.length + 1) k 1000000, 0) := by rw [roomR, if_pos h, if_pos h2]
theorem roomGo_end {l : List Rg} {f : Nat} {k room : Int} (h : k < 0) : roomGo l f k room = room := by
  cases f with
  | zero => rfl
  | succ f => rw [roomGo, if_pos h]
theorem roomGo_next {l : List Rg} {f : Nat} {k : Nat} {room : Int} (hf : (k : Int) < f) : ∃ f', f = f' + 1 ∧ roomGo l f k room = roomGo l f' (l.getD k r0).a (min room ((l.getD k r0).n - (l.getD k r0).b)) := by
  cases f with
  | zero => omega
  | succ f => exact ⟨f, rfl, by rw [roomGo, if_neg (by omega), Int.toNat_natCast]⟩

set_option maxHeartbeats 1000000 in
theorem room_some (b off cap : Nat) (l : List Rg) (k : Int) (w : World) (h0 : 0 < l.length) (hl : l.length ≤ cap) (hL : Lies w b off l) :
    Calls Try.prog 41 #[.slice (some ⟨b, off, none⟩) l.length cap, .int .i64 k] w fun e w' => e = .returned (.tuple #[.int .i64 (roomR l k).1, .int .i64 (roomR l k).2]) ∧ Below w.heap.size w w' := by
  have hcheck := check_some b off cap l w hl hL
  obtain ⟨c, hc⟩ : ∃ c, c = l.length := ⟨_, rfl⟩
  by_cases hz : chkT l = 0
  · have hze : (chkT l != 0) = false := by simp [hz]
    have h12 := ((chkT_zero l).1 hz).1
    have hg := ((chkT_zero l).1 hz).2.1
    by_cases hin : 0 ≤ k ∧ k < l.length
    · have HRM := Lib.hid (roomR_some hz hin)
      rw [← hc] at h0 hl hcheck hin h12 ⊢
      have HL := Lib.hid hL
      have HC := Lib.hid hc
      have HK := Lib.hid hcheck
      have HG := Lib.hid hg
      clear hL hc hcheck hg hz
      obtain ⟨k0, k1⟩ := hin
      have hlt := HL.out.lt
      go_enter Try.func41, Try.ntmps41
      go_wp2_with fail
      refine HK.out.mono ?_
      rintro e w1 ⟨rfl, hb1⟩
      go_wp2_with fail
      go_loopw [7, 8] (fun rv at_ wr => ∃ (q : Int) (f : Nat) (room : Int), at_ = .int .i64 q ∧ rv = .int .i64 room ∧ 0 ≤ room ∧ room ≤ 1000000 ∧ -1 ≤ q ∧ q < c ∧ Hid (q < f) ∧ Below w.heap.size w wr ∧ Hid (roomGo l (l.length + 1) k 1000000 = roomGo l f q room)) (fun _ at_ _ => (intOf at_ + 1).toNat)
      case atStart => exact ⟨k, l.length + 1, 1000000, rfl, rfl, by omega, by omega, by omega, k1, by have := HC.out; show (k : Int) < _; omega, hb1, rfl⟩
      case round =>
        clear hb1
        obtain ⟨q, f, room, rfl, rfl, rm0, rm1, q0, q1, HF, hbel, HT⟩ := hrel
        by_cases hq : q < 0
        · go_wp2
          go_ret2
          rw [HRM.out, HT.out.trans (roomGo_end hq)]
          exact ⟨rfl, hbel⟩
        · obtain ⟨j, rfl⟩ : ∃ j : Nat, q = j := ⟨q.toNat, by omega⟩
          obtain ⟨s, hs⟩ : ∃ s, s = l.getD j r0 := ⟨_, rfl⟩
          have jlt : j < c := by omega
          have hj : j < l.length := by rw [← HC.out]; exact jlt
          have g1 := (hbel.cell (p := ⟨b, off + j * 3, none⟩) hlt).trans (HL.out.ca j hj)
          have g2 := (hbel.cell (p := ⟨b, off + j * 3 + 1, none⟩) hlt).trans (HL.out.cb j hj)
          have g3 := (hbel.cell (p := ⟨b, off + j * 3 + 2, none⟩) hlt).trans (HL.out.cn j hj)
          have hu := HG.out.up j hj
          have hm := HG.out.num j hj
          obtain ⟨f', rfl, hT'⟩ := roomGo_next (l := l) (k := j) (room := room) HF.out
          rw [← hs] at g1 g2 g3 hu hm hT'
          obtain ⟨u0, u1⟩ := hu
          obtain ⟨m0, m1, m2, m3⟩ := hm
          have HT2 := Lib.hid hT'
          have hmin : min room (s.n - s.b) = room ∨ min room (s.n - s.b) = s.n - s.b := by omega
          clear hs hT' hj
          go_wp2
          go_region
          generalize hmm : (if s.n - s.b < room then s.n - s.b else room) = m
          have hmb : 0 ≤ m ∧ m ≤ 1000000 := by rw [← hmm]; split <;> omega
          have hmq : min room (s.n - s.b) = m := by rw [← hmm]; split <;> omega
          have HMQ := Lib.hid hmq
          clear hmm hmq hmin
          obtain ⟨mb0, mb1⟩ := hmb
          go_wp2
          go_roundw
          case rel => exact ⟨s.a, f', m, rfl, rfl, mb0, mb1, u0, by omega, by have := HF.out; show s.a < _; omega, hbel.drew, by have := HT.out.trans HT2.out; rw [HMQ.out] at this; exact this⟩
          case measure => simp [intOf]; omega
    · have HBAD := Lib.hid (roomR_arg hz hin)
      rw [← hc] at hin hcheck ⊢
      have HK := Lib.hid hcheck
      have hcase : k < 0 ∨ (0 ≤ k ∧ (c : Int) ≤ k) := by omega
      clear hin hL hc hcheck hg hz
      rcases hcase with hh | hh
      all_goals
        go_enter Try.func41, Try.ntmps41
        go_wp2_with fail
        refine HK.out.mono ?_
        rintro e w1 ⟨rfl, hb1⟩
        go_wp2
        go_ret2
        exact ⟨by rw [HBAD.out]; rfl, hb1⟩
  · have hze : (chkT l != 0) = true := by simp [hz]
    have HBAD := Lib.hid (roomR_bad hz (k := k))
    have HK := Lib.hid hcheck
    clear hz hL hc hcheck
    go_enter Try.func41, Try.ntmps41
    go_wp2_with fail
    refine HK.out.mono ?_
    rintro e w1 ⟨rfl, hb1⟩
    go_wp2
    go_ret2
    exact ⟨by rw [HBAD.out]; rfl, hb1⟩

theorem take_none (a : Option Addr) (cap : Nat) (k n : Int) (w : World) :
    Calls Try.prog 39 #[.slice a 0 cap, .int .i64 k, .int .i64 n] w (Pair (takeR [] k n) w) := by
  have hR : takeR [] k n = ([], 1) := takeR_arg rfl (by simp <;> omega)
  rw [hR]
  have hcase : k < 0 ∨ 0 ≤ k := by omega
  rcases hcase with hh | hh
  all_goals
    go_enter Try.func39, Try.ntmps39
    go_wp2_with fail
    refine (check_none a cap w).mono ?_
    rintro e w1 ⟨rfl, hb1⟩
    go_wp2
    go_ret2
    exact pair_bad rfl hb1
theorem give_none (a : Option Addr) (cap : Nat) (k n : Int) (w : World) :
    Calls Try.prog 40 #[.slice a 0 cap, .int .i64 k, .int .i64 n] w (Pair (giveR [] k n) w) := by
  have hR : giveR [] k n = ([], 1) := giveR_arg rfl (by simp <;> omega)
  rw [hR]
  have hcase : k < 0 ∨ 0 ≤ k := by omega
  rcases hcase with hh | hh
  all_goals
    go_enter Try.func40, Try.ntmps40
    go_wp2_with fail
    refine (check_none a cap w).mono ?_
    rintro e w1 ⟨rfl, hb1⟩
    go_wp2
    go_ret2
    exact pair_bad rfl hb1
theorem room_none (a : Option Addr) (cap : Nat) (k : Int) (w : World) :
    Calls Try.prog 41 #[.slice a 0 cap, .int .i64 k] w fun e w' => e = .returned (.tuple #[.int .i64 (roomR [] k).1, .int .i64 (roomR [] k).2]) ∧ Below w.heap.size w w' := by
  have hR : roomR [] k = (0, 1) := roomR_arg rfl (by simp <;> omega)
  rw [hR]
  have hcase : k < 0 ∨ 0 ≤ k := by omega
  rcases hcase with hh | hh
  all_goals
    go_enter Try.func41, Try.ntmps41
    go_wp2_with fail
    refine (check_none a cap w).mono ?_
    rintro e w1 ⟨rfl, hb1⟩
    go_wp2
    go_ret2
    exact ⟨rfl, hb1⟩

theorem take_is {w : World} {v : Value} {l : List Rg} (k n : Int) (h : IsL w v l) : Calls Try.prog 39 #[v, .int .i64 k, .int .i64 n] w (Pair (takeR l k n) w) := by
  obtain ⟨a, cap, rfl, hl, h⟩ := h
  by_cases h0 : l = []
  · subst h0; exact take_none a cap k n w
  · rcases h with h | ⟨b, off, rfl, hL⟩
    · exact absurd h h0
    · exact take_some b off cap l k n w (List.length_pos_iff.2 h0) hl hL
theorem give_is {w : World} {v : Value} {l : List Rg} (k n : Int) (h : IsL w v l) : Calls Try.prog 40 #[v, .int .i64 k, .int .i64 n] w (Pair (giveR l k n) w) := by
  obtain ⟨a, cap, rfl, hl, h⟩ := h
  by_cases h0 : l = []
  · subst h0; exact give_none a cap k n w
  · rcases h with h | ⟨b, off, rfl, hL⟩
    · exact absurd h h0
    · exact give_some b off cap l k n w (List.length_pos_iff.2 h0) hl hL
theorem room_is {w : World} {v : Value} {l : List Rg} (k : Int) (h : IsL w v l) :
    Calls Try.prog 41 #[v, .int .i64 k] w fun e w' => e = .returned (.tuple #[.int .i64 (roomR l k).1, .int .i64 (roomR l k).2]) ∧ Below w.heap.size w w' := by
  obtain ⟨a, cap, rfl, hl, h⟩ := h
  by_cases h0 : l = []
  · subst h0; exact room_none a cap k w
  · rcases h with h | ⟨b, off, rfl, hL⟩
    · exact absurd h h0
    · exact room_some b off cap l k w (List.length_pos_iff.2 h0) hl hL
end Go.Proofs.Ytgdihccmkleimaa.LimitLaw
