/- The walks of package box's functions. -/
import Derived.Test.YtgdihccmkleimaaProg
import Derived.Test.YtgdihccmkleimaaBoxPlain
import Derived.WalkKit
import Derived.BigQuiet
import Derived.Lib.Hide
namespace Go.Proofs.Ytgdihccmkleimaa.BoxLaw
open Go.RowKit

/-- the list lies in memory at block b from off on -/
structure Lies (w : World) (b off : Nat) (l : List Rg) : Prop where
  lt : b < w.heap.size
  ca : ∀ i, i < l.length → w.cell? ⟨b, off + i * 3, none⟩ = some (.int .i64 (l.getD i ⟨0, 0, 0⟩).a)
  cb : ∀ i, i < l.length → w.cell? ⟨b, off + i * 3 + 1, none⟩ = some (.int .i64 (l.getD i ⟨0, 0, 0⟩).b)
  cn : ∀ i, i < l.length → w.cell? ⟨b, off + i * 3 + 2, none⟩ = some (.int .i64 (l.getD i ⟨0, 0, 0⟩).n)

theorem Lies.below {w w' : World} {b off : Nat} {l : List Rg} {B : Nat} (h : Lies w b off l) (hb : Below B w w') (hB : b < B) : Lies w' b off l :=
  ⟨Nat.lt_of_lt_of_le h.lt hb.size, fun i hi => (hb.cell (p := ⟨b, _, none⟩) hB).trans (h.ca i hi), fun i hi => (hb.cell (p := ⟨b, _, none⟩) hB).trans (h.cb i hi), fun i hi => (hb.cell (p := ⟨b, _, none⟩) hB).trans (h.cn i hi)⟩

theorem ret_int {k : IntKind} {a b : Int} (h : a = b) : Ending.returned (.int k a) = .returned (.int k b) := by rw [h]

theorem meet_any (a n b m : Int) (w : World) (ha : 0 ≤ a ∧ a ≤ 100) (hn : 0 ≤ n ∧ n ≤ 100) (hb : 0 ≤ b ∧ b ≤ 100) (hm : 0 ≤ m ∧ m ≤ 100) :
    Calls Try.prog 50 #[.int .i64 a, .int .i64 n, .int .i64 b, .int .i64 m] w fun e w' => e = .returned (.bool (meetI a n b m)) ∧ w = w' := by
  obtain ⟨ha0, ha1⟩ := ha
  obtain ⟨hn0, hn1⟩ := hn
  obtain ⟨hb0, hb1⟩ := hb
  obtain ⟨hm0, hm1⟩ := hm
  by_cases h1 : a < b + m
  · by_cases h2 : b < a + n
    all_goals
      go_enter Try.func50, Try.ntmps50
      go_wp2
      go_ret
      exact ⟨by simp [meetI, h1, h2], rfl⟩
  · go_enter Try.func50, Try.ntmps50
    go_wp2
    go_ret
    exact ⟨by simp [meetI]; omega, rfl⟩

theorem notok {r : Rg} (h : ¬ okR r = true) : r.n < 1 ∨ (1 ≤ r.n ∧ 100 < r.n) ∨ ((1 ≤ r.n ∧ r.n ≤ 100) ∧ r.a < 0) ∨ ((1 ≤ r.n ∧ r.n ≤ 100) ∧ 0 ≤ r.a ∧ r.b < 0) ∨ ((1 ≤ r.n ∧ r.n ≤ 100) ∧ 0 ≤ r.a ∧ 0 ≤ r.b ∧ 100 - r.n < r.a) ∨ ((1 ≤ r.n ∧ r.n ≤ 100) ∧ 0 ≤ r.a ∧ 0 ≤ r.b ∧ r.a ≤ 100 - r.n ∧ 100 - r.n < r.b) := by
  rw [okR_iff] at h; omega

theorem drop_get (l : List Rg) (k : Nat) (h : k < l.length) : l.drop k = l.getD k ⟨0, 0, 0⟩ :: l.drop (k + 1) := by
  rw [List.drop_eq_getElem_cons h]; simp [List.getD, h]
theorem take_get (l : List Rg) (k : Nat) (h : k < l.length) : l.take (k + 1) = l.take k ++ [l.getD k ⟨0, 0, 0⟩] := by
  rw [List.take_succ_eq_append_getElem h]; simp [List.getD, h]
theorem chk_bad {l : List Rg} {k : Nat} (h4 : ¬ 4 < l.length) (h : k < l.length) (hc : chkFrom [] l = chkFrom (l.take k) (l.drop k)) (hok : ¬ okR (l.getD k ⟨0, 0, 0⟩) = true) : chk l = 1 := by
  rw [chk, if_neg h4, hc, drop_get l k h, chkFrom, if_neg hok]
theorem mem_take {l : List Rg} {k : Nat} {o : Rg} (h : o ∈ l.take k) : ∃ j, j < k ∧ o = l.getD j ⟨0, 0, 0⟩ := by
  obtain ⟨j, hj, rfl⟩ := List.mem_take_iff_getElem.1 h
  exact ⟨j, by omega, by simp [List.getD, show j < l.length by omega]⟩
theorem chk_meets {l : List Rg} {k j : Nat} (h4 : ¬ 4 < l.length) (h : k < l.length) (hc : chkFrom [] l = chkFrom (l.take k) (l.drop k)) (hok : okR (l.getD k ⟨0, 0, 0⟩) = true) (hj : j < k)
    (hm : meetR (l.getD k ⟨0, 0, 0⟩) (l.getD j ⟨0, 0, 0⟩) = true) : chk l = 5 := by
  rw [chk, if_neg h4, hc, drop_get l k h, chkFrom, if_pos hok, if_pos]
  refine List.any_eq_true.2 ⟨l.getD j ⟨0, 0, 0⟩, ?_, hm⟩
  rw [List.mem_take_iff_getElem]
  exact ⟨j, by omega, by simp [List.getD, show j < l.length by omega]⟩
theorem chk_next {l : List Rg} {k : Nat} (h : k < l.length) (hc : chkFrom [] l = chkFrom (l.take k) (l.drop k)) (hok : okR (l.getD k ⟨0, 0, 0⟩) = true)
    (hm : ∀ j, j < k → meetR (l.getD k ⟨0, 0, 0⟩) (l.getD j ⟨0, 0, 0⟩) = false) : chkFrom [] l = chkFrom (l.take (k + 1)) (l.drop (k + 1)) := by
  rw [hc, drop_get l k h, chkFrom, if_pos hok, if_neg, take_get l k h]
  intro ha
  obtain ⟨o, ho, hm'⟩ := List.any_eq_true.1 ha
  obtain ⟨j, hj, rfl⟩ := mem_take ho
  rw [hm j hj] at hm'; cases hm'

set_option maxHeartbeats 800000 in
theorem check_any (b off cap : Nat) (l : List Rg) (w : World) (hl : l.length ≤ cap) (hL : Lies w b off l) :
    Calls Try.prog 22 #[.slice (some ⟨b, off, none⟩) l.length cap] w fun e w' => e = .returned (.int .i64 (chk l)) ∧ Below w.heap.size w w' := by
  obtain ⟨n, hn⟩ : ∃ n, n = l.length := ⟨_, rfl⟩
  rw [← hn] at hl ⊢
  have HL := Lib.hid hL
  have HN := Lib.hid hn
  clear hL hn
  by_cases h4 : 4 < n
  · go_enter Try.func22, Try.ntmps22
    go_wp2
    go_ret
    exact ⟨by simp [chk, ← HN.out, h4], Below.refl _ _⟩
  · go_enter Try.func22, Try.ntmps22
    go_wp2
    go_loopw [12] (fun i wr => ∃ k : Nat, k ≤ n ∧ i = .int .i64 k ∧ Below w.heap.size w wr ∧ Hid (chkFrom [] l = chkFrom (l.take k) (l.drop k)) ∧ Hid (∀ j, j < k → okR (l.getD j ⟨0, 0, 0⟩) = true)) (fun i _ => n - (intOf i).toNat)
    case atStart => exact ⟨0, Nat.zero_le _, rfl, Below.refl _ _, rfl, fun j hj => absurd hj (Nat.not_lt_zero _)⟩
    case round =>
      obtain ⟨k, hk, rfl, hbel, HC, HO⟩ := hrel
      by_cases hlt : k < n
      · obtain ⟨r, hr⟩ : ∃ r, r = l.getD k ⟨0, 0, 0⟩ := ⟨_, rfl⟩
        have g1 := (hbel.cell (p := ⟨b, off + k * 3, none⟩) HL.out.lt).trans (HL.out.ca k (by rw [← HN.out]; exact hlt))
        have g2 := (hbel.cell (p := ⟨b, off + k * 3 + 1, none⟩) HL.out.lt).trans (HL.out.cb k (by rw [← HN.out]; exact hlt))
        have g3 := (hbel.cell (p := ⟨b, off + k * 3 + 2, none⟩) HL.out.lt).trans (HL.out.cn k (by rw [← HN.out]; exact hlt))
        rw [← hr] at g1 g2 g3
        have HR := Lib.hid hr
        clear hr
        by_cases hok : okR r = true
        · obtain ⟨q1, q2, q3, q4, q5, q6⟩ := (okR_iff r).1 hok
          have HK := Lib.hid hok
          clear hok
          obtain ⟨wo, rfl⟩ : ∃ wo : World, wo = wr := ⟨_, rfl⟩
          go_wp2
          go_loopw [55] (fun i wi => ∃ j : Nat, j ≤ k ∧ i = .int .i64 j ∧ Below (wo.heap.size + 1) (wo.alloc (.cells #[.int .i64 r.a, .int .i64 r.b, .int .i64 r.n] 99)) wi ∧ Hid (∀ x, x < j → meetR r (l.getD x ⟨0, 0, 0⟩) = false)) (fun i _ => k - (intOf i).toNat)
          case atStart => exact ⟨0, Nat.zero_le _, rfl, Below.refl _ _, fun x hx => absurd hx (Nat.not_lt_zero _)⟩
          case round =>
            obtain ⟨j, hj, rfl, hbi, HM⟩ := hrel
            have c1 : wr.cell? ⟨wo.heap.size, 0, none⟩ = some (.int .i64 r.a) := (hbi.cell (p := ⟨wo.heap.size, 0, none⟩) (Nat.lt_succ_self _)).trans (by simp)
            have c2 : wr.cell? ⟨wo.heap.size, 1, none⟩ = some (.int .i64 r.b) := (hbi.cell (p := ⟨wo.heap.size, 1, none⟩) (Nat.lt_succ_self _)).trans (by simp)
            have c3 : wr.cell? ⟨wo.heap.size, 2, none⟩ = some (.int .i64 r.n) := (hbi.cell (p := ⟨wo.heap.size, 2, none⟩) (Nat.lt_succ_self _)).trans (by simp)
            have hbw : Below w.heap.size w wr := (hbel.alloc hbel.size _).trans (hbi.mono (by have := hbel.size; omega))
            have hsz := hbi.size
            simp at hsz
            clear g1 g2 g3
            by_cases hjk : j < k
            · obtain ⟨o, ho⟩ : ∃ o, o = l.getD j ⟨0, 0, 0⟩ := ⟨_, rfl⟩
              have g1 := (hbw.cell (p := ⟨b, off + j * 3, none⟩) HL.out.lt).trans (HL.out.ca j (by rw [← HN.out]; omega))
              have g2 := (hbw.cell (p := ⟨b, off + j * 3 + 1, none⟩) HL.out.lt).trans (HL.out.cb j (by rw [← HN.out]; omega))
              have g3 := (hbw.cell (p := ⟨b, off + j * 3 + 2, none⟩) HL.out.lt).trans (HL.out.cn j (by rw [← HN.out]; omega))
              rw [← ho] at g1 g2 g3
              have hoo := HO.out j hjk
              rw [← ho] at hoo
              obtain ⟨p1, p2, p3, p4, p5, p6⟩ := (okR_iff o).1 hoo
              have HOO := Lib.hid ho
              clear ho hoo
              have hc1 : (wr.alloc (.cells #[.int .i64 o.a, .int .i64 o.b, .int .i64 o.n] 99)).cell? ⟨wo.heap.size, 0, none⟩ = some (.int .i64 r.a) := by rw [World.cell?_alloc_past _ _ _ (by omega)]; exact c1
              have hc2 : (wr.alloc (.cells #[.int .i64 o.a, .int .i64 o.b, .int .i64 o.n] 99)).cell? ⟨wo.heap.size, 1, none⟩ = some (.int .i64 r.b) := by rw [World.cell?_alloc_past _ _ _ (by omega)]; exact c2
              have hc3 : (wr.alloc (.cells #[.int .i64 o.a, .int .i64 o.b, .int .i64 o.n] 99)).cell? ⟨wo.heap.size, 2, none⟩ = some (.int .i64 r.n) := by rw [World.cell?_alloc_past _ _ _ (by omega)]; exact c3
              cases h1 : meetI r.a r.n o.a o.n
              · cases h2 : meetI r.b r.n o.b o.n
                · have HF : Hid (meetR r o = false) := by show _ = _; rw [meetR, h1, h2]; rfl
                  go_wp2_with (go_at_call 50; refine (meet_any _ _ _ _ _ ⟨by omega, by omega⟩ ⟨by omega, by omega⟩ ⟨by omega, by omega⟩ ⟨by omega, by omega⟩).mono ?_; rintro e w' ⟨rfl, rfl⟩)
                  go_roundw
                  case rel => exact ⟨j + 1, by omega, by go_num, hbi.alloc (by omega) _, fun x hx => by
                    rcases Nat.lt_succ_iff_lt_or_eq.1 hx with h | rfl
                    · exact HM.out x h
                    · rw [← HOO.out]; exact HF.out⟩
                  case measure => simp [intOf]; omega
                · have HF : Hid (meetR r o = true) := by show _ = _; rw [meetR, h1, h2]; rfl
                  go_wp2_with (go_at_call 50; refine (meet_any _ _ _ _ _ ⟨by omega, by omega⟩ ⟨by omega, by omega⟩ ⟨by omega, by omega⟩ ⟨by omega, by omega⟩).mono ?_; rintro e w' ⟨rfl, rfl⟩)
                  go_ret
                  refine ⟨ret_int (chk_meets (by rw [← HN.out]; exact h4) (by rw [← HN.out]; exact hlt) HC.out (by rw [← HR.out]; exact HK.out) hjk (by rw [← HR.out, ← HOO.out]; exact HF.out)).symm, hbw.alloc (by have := hbel.size; omega) _⟩
              · have HF : Hid (meetR r o = true) := by show _ = _; rw [meetR, h1]; rfl
                go_wp2_with (go_at_call 50; refine (meet_any _ _ _ _ _ ⟨by omega, by omega⟩ ⟨by omega, by omega⟩ ⟨by omega, by omega⟩ ⟨by omega, by omega⟩).mono ?_; rintro e w' ⟨rfl, rfl⟩)
                go_ret
                refine ⟨ret_int (chk_meets (by rw [← HN.out]; exact h4) (by rw [← HN.out]; exact hlt) HC.out (by rw [← HR.out]; exact HK.out) hjk (by rw [← HR.out, ← HOO.out]; exact HF.out)).symm, hbw.alloc (by have := hbel.size; omega) _⟩
            · obtain rfl : j = k := by omega
              go_wp2
              go_roundw
              case rel => exact ⟨j + 1, by omega, by go_num, hbw, chk_next (by rw [← HN.out]; exact hlt) HC.out (by rw [← HR.out]; exact HK.out) (by rw [← HR.out]; exact HM.out), fun x hx => by
                rcases Nat.lt_succ_iff_lt_or_eq.1 hx with h | rfl
                · exact HO.out x h
                · rw [← HR.out]; exact HK.out⟩
              case measure => simp [intOf]; omega
        · have HF := Lib.hid hok
          rcases notok hok with h | h | h | h | h | h
          all_goals
            clear hok
            go_wp2
            go_ret
            exact ⟨ret_int (chk_bad (by rw [← HN.out]; exact h4) (by rw [← HN.out]; exact hlt) HC.out (by rw [← HR.out]; exact HF.out)).symm, hbel.alloc hbel.size _⟩
      · go_wp2
        go_ret
        obtain rfl : k = n := by omega
        exact ⟨ret_int (by rw [chk, ← HN.out, if_neg h4, HC.out, List.drop_of_length_le (by rw [← HN.out]; omega), chkFrom]), hbel⟩
end Go.Proofs.Ytgdihccmkleimaa.BoxLaw
