/- The law ringkeep5.ModeTurns of its Go body. -/
import Derived.Test.YtddfgdodpjmjfaaTurnsRow
import Derived.Deep.RegionHeld3
namespace Go.Proofs.Ytddfgdodpjmjfaa.CredLaw
open Go.RowKit
set_option linter.unusedVariables false
set_option linter.unusedSimpArgs false
attribute [local go_sem ↓] load41_eq store41_eq load44_eq zero41 cellsS_of cellsC_of neq41 eql41
attribute [local go_sem] store41_new load41_new
theorem set_c {w : World} {c : C} {m : Value} (h : IsC w (encC c m) c) (s : S) (n : Int) (w' : World) (hb : Below w.heap.size w w') (hk : ∀ w', Below w.heap.size w w' → IsC w' (encC c m) c) :
    Calls Try.prog 25 #[.agg (cellsS s), .agg (cellsC c m), .int .i64 n] w' fun e w2 => e = .returned (.tuple #[.agg (cellsS (setR s c n).1), .int .i64 (setR s c n).2]) ∧ Below w'.heap.size w' w2 := set_is s n (hk w' hb)
set_option maxRecDepth 100000 in
set_option maxHeartbeats 1000000 in
theorem modeturns_any {w : World} {v : Value} {c : C} (s : S) (n user : Int) (h : IsC w v c) :
    Calls Try.prog 6 #[encS s, v, .int .i64 n, .int .i64 user] w fun e w' => e = .returned (.bool true) ∧ Below w.heap.size w w' := by
  obtain ⟨m, rfl, hm⟩ := h
  show Calls Try.prog 6 #[.agg (cellsS s), .agg (cellsC c m), .int .i64 n, .int .i64 user] w _
  have HSET := Lib.hid (fun (t : S) (k : Int) (w' : World) (hb : Below w.heap.size w w') => (show Calls Try.prog 25 #[.agg (cellsS t), .agg (cellsC c m), .int .i64 k] w' fun e w2 => e = .returned (.tuple #[.agg (cellsS (setR t c k).1), .int .i64 (setR t c k).2]) ∧ Below w'.heap.size w' w2 from set_is (w := w') (c := c) t k ⟨m, rfl, hm.keep hb⟩))
  have HOWN := Lib.hid (fun (t : S) (k g : Int) (w' : World) (hb : Below w.heap.size w w') => (show Calls Try.prog 26 #[.agg (cellsS t), .agg (cellsC c m), .int .i64 k, .int .i64 g] w' fun e w2 => e = .returned (.tuple #[.agg (cellsS (ownR t c k g).1), .int .i64 (ownR t c k g).2]) ∧ Below w'.heap.size w' w2 from own_is (w := w') (c := c) t k g ⟨m, rfl, hm.keep hb⟩))
  have HA : Hid (Below w.heap.size w ((w.alloc (.cells (cellsS s) 41)).alloc (.cells (cellsC c m) 44))) := Lib.hid (Go.Joins.below_alloc2 _ _ _)
  have HS0 : Hid (Row ((w.alloc (.cells (cellsS s) 41)).alloc (.cells (cellsC c m) 44)) w.heap.size 41 (cellsS s)) := Lib.hid ((row_new w 41 (cellsS s)).alloc _)
  have HC0 : Hid (Row ((w.alloc (.cells (cellsS s) 41)).alloc (.cells (cellsC c m) 44)) (w.heap.size + 1) 44 (cellsC c m)) := Lib.hid (by
    have := row_new (w.alloc (.cells (cellsS s) 41)) 44 (cellsC c m)
    rw [World.size_alloc] at this
    exact this)
  obtain ⟨N, hN⟩ : ∃ N, N = n % 512 := ⟨_, rfl⟩
  obtain ⟨U, hU⟩ : ∃ U, U = user % 100 := ⟨_, rfl⟩
  have HN := Lib.hid hN
  have HU := Lib.hid hU
  have hsb := set_back s c N
  have hob := own_back s c U
  obtain ⟨t, ht⟩ : ∃ t, t = setR s c N := ⟨_, rfl⟩
  obtain ⟨o, ho⟩ : ∃ o, o = ownR s c U s.group := ⟨_, rfl⟩
  rw [← ht] at hsb
  rw [← ho] at hob
  have HT := Lib.hid ht
  have HO := Lib.hid ho
  have HSB := Lib.hid hsb
  have HOB := Lib.hid hob
  clear hN hU hm hsb hob ht ho
  obtain ⟨t, et⟩ := t
  obtain ⟨o, eo⟩ := o
  go_enter Try.func6, Try.ntmps6
  go_wp2_with fail
  refine (modes_any _).mono ?_
  rintro e w1 ⟨rfl, hb1⟩
  have HB1 := Lib.hid (HA.out.trans (hb1.mono HA.out.size))
  have HS1 := Lib.hid (HS0.out.keep hb1)
  have HC1 := Lib.hid (HC0.out.keep hb1)
  have l0 := (HS1.out.keep (Below.refl _ _).drew).load41
  have l1 := ((HS1.out.alloc (.cells (cellsS zeroS) 41)).keep (Below.refl _ _).drew).load41
  have k0 := (HC1.out.keep (Below.refl _ _).drew).load44
  have k1 := ((HC1.out.alloc (.cells (cellsS zeroS) 41)).keep (Below.refl _ _).drew).load44
  have c0 := HSET.out s N w1.drew HB1.out.drew
  have c1 := HSET.out s N (w1.alloc (.cells (cellsS zeroS) 41)).drew (HB1.out.alloc HB1.out.size _).drew
  rw [← HT.out] at c0 c1
  have C0 := Lib.hid c0
  have C1 := Lib.hid c1
  have HZ1 := Lib.hid ((row_new w1 41 (cellsS zeroS)).keep (Below.refl _ _).drew)
  have HD0 := Lib.hid (show Below w1.heap.size w1 w1.drew from (Below.refl _ _).drew)
  have HD1 := Lib.hid (show Below w1.heap.size w1 (w1.alloc (.cells (cellsS zeroS) 41)).drew from ((Below.refl _ _).alloc (Nat.le_refl _) _).drew)
  clear hb1 c0 c1
  go_upto_region 3 with fail
  go_cut [9, 10] (fun s9 s10 wx => s10 = .int .i64 et ∧ ∃ b9, s9 = .pointer (some ⟨b9, 0, none⟩) ∧ w1.heap.size ≤ b9 ∧ Below w1.heap.size w1 wx ∧ Row wx b9 41 (cellsS t))
  case first =>
    have HBO : Hid (∀ w', Below w1.heap.size w1 w' → (fun w' => Below w1.heap.size w1 w' ∧ (load41 (.pointer (some ⟨w.heap.size, 0, none⟩))).run Try.prog w' = .ok (.agg (cellsS s)) w' ∧ (load44 (.pointer (some ⟨w.heap.size + 1, 0, none⟩))).run Try.prog w' = .ok (.agg (cellsC c m)) w') w') := Lib.hid (fun w' hb => ⟨hb, (HS1.out.keep hb).load41, (HC1.out.keep hb).load44⟩)
    clear l0 l1 k0 k1
    go_region_held3 (fun w' => Below w1.heap.size w1 w' ∧ (load41 (.pointer (some ⟨w.heap.size, 0, none⟩))).run Try.prog w' = .ok (.agg (cellsS s)) w' ∧ (load44 (.pointer (some ⟨w.heap.size + 1, 0, none⟩))).run Try.prog w' = .ok (.agg (cellsC c m)) w') (first | assumption | exact HBO.out _ HD0.out | exact HBO.out _ HD1.out | exact HBO.out _ (below_setRow (And.left ‹_›) (Nat.le_refl _) _) | exact HBO.out _ (Below.alloc (And.left ‹_›) (Below.size (And.left ‹_›)) _) | go_keep)
      (first | (go_at_call 18; refine (within_any n 512 _ (by decide) (by decide)).mono ?_; rintro e w9 ⟨rfl, rfl⟩; rw [← HN.out]) | (go_at_call 25; (with_reducible refine C0.out.mono ?_); rintro e w9 ⟨rfl, hb9⟩; have hS := HBO.out _ (HD0.out.trans (hb9.mono HD0.out.size))) | (go_at_call 25; (with_reducible refine C1.out.mono ?_); rintro e w9 ⟨rfl, hb9⟩; have hst := (HZ1.out.keep hb9).store41 t; have hS := HBO.out _ (HD1.out.trans (hb9.mono HD1.out.size))))
    all_goals go_wp2
    all_goals go_meet
    all_goals first
      | exact ⟨rfl, _, rfl, (HD0.out.trans (hb9.mono HD0.out.size)).size, (HD0.out.trans (hb9.mono HD0.out.size)).alloc (HD0.out.trans (hb9.mono HD0.out.size)).size _, row_new _ _ _⟩
      | exact ⟨rfl, _, rfl, Nat.le_refl _, below_setRow (HD1.out.trans (hb9.mono HD1.out.size)) (Nat.le_refl _) _, (HZ1.out.keep hb9).setRow _⟩
  case rest =>
    obtain ⟨rfl, b9, rfl, hbl, hbc, hr9⟩ := hcut
    have HB2 := Lib.hid (HB1.out.trans (hbc.mono HB1.out.size))
    have HS2 := Lib.hid (HS1.out.keep hbc)
    have HC2 := Lib.hid (HC1.out.keep hbc)
    clear C0 C1 HZ1 HD0 HD1 l0 l1 k0 k1
    rcases HSB.out with he | ⟨he, hback⟩
    · have he' : (et == 0) = false := by simpa using he
      have HBx := HB2
      have HSx := HS2
      have HCx := HC2
      clear he hbl hbc hr9
      go_upto_region 8 with fail
      have c0 := HOWN.out s U s.group wc.drew HBx.out.drew
      have c1 := HOWN.out s U s.group (wc.alloc (.cells (cellsS zeroS) 41)).drew (HBx.out.alloc HBx.out.size _).drew
      rw [← HO.out] at c0 c1
      have C0 := Lib.hid c0
      have C1 := Lib.hid c1
      have HZ1 := Lib.hid ((row_new wc 41 (cellsS zeroS)).keep (Below.refl _ _).drew)
      have HD0 := Lib.hid (show Below wc.heap.size wc wc.drew from (Below.refl _ _).drew)
      have HD1 := Lib.hid (show Below wc.heap.size wc (wc.alloc (.cells (cellsS zeroS) 41)).drew from ((Below.refl _ _).alloc (Nat.le_refl _) _).drew)
      clear c0 c1
      go_cut [13, 14] (fun s13 s14 wx => s14 = .int .i64 eo ∧ ∃ b9, s13 = .pointer (some ⟨b9, 0, none⟩) ∧ wc.heap.size ≤ b9 ∧ Below wc.heap.size wc wx ∧ Row wx b9 41 (cellsS o))
      case first =>
        have HBO : Hid (∀ w', Below wc.heap.size wc w' → (fun w' => Below wc.heap.size wc w' ∧ (load41 (.pointer (some ⟨w.heap.size, 0, none⟩))).run Try.prog w' = .ok (.agg (cellsS s)) w' ∧ (load44 (.pointer (some ⟨w.heap.size + 1, 0, none⟩))).run Try.prog w' = .ok (.agg (cellsC c m)) w' ∧ w'.cell? ⟨w.heap.size, 3, none⟩ = some (.int .i64 s.group)) w') := Lib.hid (fun w' hb => ⟨hb, (HSx.out.keep hb).load41, (HCx.out.keep hb).load44, (HSx.out.keep hb).cell 3⟩)
        go_region_held3 (fun w' => Below wc.heap.size wc w' ∧ (load41 (.pointer (some ⟨w.heap.size, 0, none⟩))).run Try.prog w' = .ok (.agg (cellsS s)) w' ∧ (load44 (.pointer (some ⟨w.heap.size + 1, 0, none⟩))).run Try.prog w' = .ok (.agg (cellsC c m)) w' ∧ w'.cell? ⟨w.heap.size, 3, none⟩ = some (.int .i64 s.group)) (first | assumption | exact HBO.out _ HD0.out | exact HBO.out _ HD1.out | exact HBO.out _ (below_setRow (And.left ‹_›) (Nat.le_refl _) _) | exact HBO.out _ (Below.alloc (And.left ‹_›) (Below.size (And.left ‹_›)) _) | go_keep)
          (first | (go_at_call 18; refine (within_any user 100 _ (by decide) (by decide)).mono ?_; rintro e w9 ⟨rfl, rfl⟩; rw [← HU.out]) | (go_at_call 26; (with_reducible refine C0.out.mono ?_); rintro e w9 ⟨rfl, hb9⟩; have hS := HBO.out _ (HD0.out.trans (hb9.mono HD0.out.size))) | (go_at_call 26; (with_reducible refine C1.out.mono ?_); rintro e w9 ⟨rfl, hb9⟩; have hst := (HZ1.out.keep hb9).store41 o; have hS := HBO.out _ (HD1.out.trans (hb9.mono HD1.out.size))))
        all_goals go_wp2
        all_goals go_meet
        all_goals first
          | exact ⟨rfl, _, rfl, (HD0.out.trans (hb9.mono HD0.out.size)).size, (HD0.out.trans (hb9.mono HD0.out.size)).alloc (HD0.out.trans (hb9.mono HD0.out.size)).size _, row_new _ _ _⟩
          | exact ⟨rfl, _, rfl, Nat.le_refl _, below_setRow (HD1.out.trans (hb9.mono HD1.out.size)) (Nat.le_refl _) _, (HZ1.out.keep hb9).setRow _⟩
      case rest =>
        obtain ⟨rfl, b13, rfl, hbl, hbc, hr13⟩ := hcut
        have HBy := Lib.hid (HBx.out.trans (hbc.mono HBx.out.size))
        have HSy := Lib.hid (HSx.out.keep hbc)
        have HCy := Lib.hid (HCx.out.keep hbc)
        have HRy := Lib.hid hr13
        have l13 := hr13.load41
        have l5 := HCy.out.load44
        have g2 : wc.cell? ⟨w.heap.size, 2, none⟩ = some (.int .i64 s.user) := HSy.out.cell 2
        have g3 : wc.cell? ⟨w.heap.size, 3, none⟩ = some (.int .i64 s.group) := HSy.out.cell 3
        clear hbl hbc hr13 C0 C1 HZ1 HD0 HD1
        rcases HOB.out with ⟨he, hz⟩ | ⟨he, hh⟩
        · have he' : (eo != 0) = true := by simpa using he
          obtain rfl : o = zeroS := hz
          clear he
          go_wp2
          go_ret
          exact ⟨rfl, HBy.out⟩
        · obtain rfl : eo = 0 := he
          have hcl := HOWN.out o s.user s.group wc HBy.out
          have HH := Lib.hid hh
          obtain ⟨q, hq⟩ : ∃ q, q = ownR o c s.user s.group := ⟨_, rfl⟩
          rw [← hq] at hcl
          have hh2 : q.2 = 0 ∨ (q.2 ≠ 0 ∧ capB c 4 = false ∧ o.user ≠ c.user) := by rw [hq]; exact hh
          obtain ⟨q, h⟩ := q
          have HCL := Lib.hid hcl
          clear hcl hh hq
          go_wp2_with fail
          refine HCL.out.mono ?_
          rintro e wz ⟨rfl, hbz⟩
          have HBz := Lib.hid ((HBy.out.trans (hbz.mono HBy.out.size)).alloc (by have := HBy.out.size; have := hbz.size; omega) (.cells (cellsS q) 41))
          have p3 : (wz.alloc (.cells (cellsS q) 41)).cell? ⟨w.heap.size + 1, 3, none⟩ = some (.int .i64 c.caps) := ((HCy.out.keep hbz).alloc (.cells (cellsS q) 41)).cell 3
          have p0 : (wz.alloc (.cells (cellsS q) 41)).cell? ⟨w.heap.size + 1, 0, none⟩ = some (.int .i64 c.user) := ((HCy.out.keep hbz).alloc (.cells (cellsS q) 41)).cell 0
          have p2 : (wz.alloc (.cells (cellsS q) 41)).cell? ⟨b13, 2, none⟩ = some (.int .i64 o.user) := ((HRy.out.keep hbz).alloc (.cells (cellsS q) 41)).cell 2
          clear hbz l13 l5 g2 g3
          rcases hh2 with hh | ⟨hh, hcap, hu⟩
          · have hh' : (h == 0) = true := by simpa using hh
            obtain rfl : h = 0 := hh
            go_wp2
            go_ret
            exact ⟨rfl, HBz.out⟩
          · have hh' : (h == 0) = false := by simpa using hh
            have hcb : (bits .and .i64 c.caps 4 == 0) = true := by have := hcap; unfold capB at this; simpa using this
            have hu' : (o.user != c.user) = true := by simpa using hu
            clear hh hcap hu
            go_wp2
            go_ret
            exact ⟨rfl, HBz.out⟩
    · obtain rfl : et = 0 := he
      have hcl := HSET.out t s.mode wc HB2.out
      rw [show setR t c s.mode = (s, 0) from hback] at hcl
      have HCL := Lib.hid hcl
      have l9 := hr9.load41
      have l5 := HC2.out.load44
      have g1 : wc.cell? ⟨w.heap.size, 1, none⟩ = some (.int .i64 s.mode) := HS2.out.cell 1
      clear hcl hback hbl hbc hr9
      go_wp2_with fail
      refine HCL.out.mono ?_
      rintro e wz ⟨rfl, hbz⟩
      have HBx := Lib.hid ((HB2.out.trans (hbz.mono HB2.out.size)).alloc (by have := HB2.out.size; have := hbz.size; omega) (.cells (cellsS s) 41))
      have HSx := Lib.hid ((HS2.out.keep hbz).alloc (.cells (cellsS s) 41))
      have HCx := Lib.hid ((HC2.out.keep hbz).alloc (.cells (cellsS s) 41))
      have l4 := HSx.out.load41
      clear hbz l9 l5 g1
      go_upto_region 8 with fail
      generalize wz.alloc (.cells (cellsS s) 41) = wy at *
      clear l4
      have c0 := HOWN.out s U s.group wy.drew HBx.out.drew
      have c1 := HOWN.out s U s.group (wy.alloc (.cells (cellsS zeroS) 41)).drew (HBx.out.alloc HBx.out.size _).drew
      rw [← HO.out] at c0 c1
      have C0 := Lib.hid c0
      have C1 := Lib.hid c1
      have HZ1 := Lib.hid ((row_new wy 41 (cellsS zeroS)).keep (Below.refl _ _).drew)
      have HD0 := Lib.hid (show Below wy.heap.size wy wy.drew from (Below.refl _ _).drew)
      have HD1 := Lib.hid (show Below wy.heap.size wy (wy.alloc (.cells (cellsS zeroS) 41)).drew from ((Below.refl _ _).alloc (Nat.le_refl _) _).drew)
      clear c0 c1
      go_cut [13, 14] (fun s13 s14 wx => s14 = .int .i64 eo ∧ ∃ b9, s13 = .pointer (some ⟨b9, 0, none⟩) ∧ wy.heap.size ≤ b9 ∧ Below wy.heap.size wy wx ∧ Row wx b9 41 (cellsS o))
      case first =>
        have HBO : Hid (∀ w', Below wy.heap.size wy w' → (fun w' => Below wy.heap.size wy w' ∧ (load41 (.pointer (some ⟨w.heap.size, 0, none⟩))).run Try.prog w' = .ok (.agg (cellsS s)) w' ∧ (load44 (.pointer (some ⟨w.heap.size + 1, 0, none⟩))).run Try.prog w' = .ok (.agg (cellsC c m)) w' ∧ w'.cell? ⟨w.heap.size, 3, none⟩ = some (.int .i64 s.group)) w') := Lib.hid (fun w' hb => ⟨hb, (HSx.out.keep hb).load41, (HCx.out.keep hb).load44, (HSx.out.keep hb).cell 3⟩)
        go_region_held3 (fun w' => Below wy.heap.size wy w' ∧ (load41 (.pointer (some ⟨w.heap.size, 0, none⟩))).run Try.prog w' = .ok (.agg (cellsS s)) w' ∧ (load44 (.pointer (some ⟨w.heap.size + 1, 0, none⟩))).run Try.prog w' = .ok (.agg (cellsC c m)) w' ∧ w'.cell? ⟨w.heap.size, 3, none⟩ = some (.int .i64 s.group)) (first | assumption | exact HBO.out _ HD0.out | exact HBO.out _ HD1.out | exact HBO.out _ (below_setRow (And.left ‹_›) (Nat.le_refl _) _) | exact HBO.out _ (Below.alloc (And.left ‹_›) (Below.size (And.left ‹_›)) _) | go_keep)
          (first | (go_at_call 18; refine (within_any user 100 _ (by decide) (by decide)).mono ?_; rintro e w9 ⟨rfl, rfl⟩; rw [← HU.out]) | (go_at_call 26; (with_reducible refine C0.out.mono ?_); rintro e w9 ⟨rfl, hb9⟩; have hS := HBO.out _ (HD0.out.trans (hb9.mono HD0.out.size))) | (go_at_call 26; (with_reducible refine C1.out.mono ?_); rintro e w9 ⟨rfl, hb9⟩; have hst := (HZ1.out.keep hb9).store41 o; have hS := HBO.out _ (HD1.out.trans (hb9.mono HD1.out.size))))
        all_goals go_wp2
        all_goals go_meet
        all_goals first
          | exact ⟨rfl, _, rfl, (HD0.out.trans (hb9.mono HD0.out.size)).size, (HD0.out.trans (hb9.mono HD0.out.size)).alloc (HD0.out.trans (hb9.mono HD0.out.size)).size _, row_new _ _ _⟩
          | exact ⟨rfl, _, rfl, Nat.le_refl _, below_setRow (HD1.out.trans (hb9.mono HD1.out.size)) (Nat.le_refl _) _, (HZ1.out.keep hb9).setRow _⟩
      case rest =>
        obtain ⟨rfl, b13, rfl, hbl, hbc, hr13⟩ := hcut
        have HBy := Lib.hid (HBx.out.trans (hbc.mono HBx.out.size))
        have HSy := Lib.hid (HSx.out.keep hbc)
        have HCy := Lib.hid (HCx.out.keep hbc)
        have HRy := Lib.hid hr13
        have l13 := hr13.load41
        have l5 := HCy.out.load44
        have g2 : wc.cell? ⟨w.heap.size, 2, none⟩ = some (.int .i64 s.user) := HSy.out.cell 2
        have g3 : wc.cell? ⟨w.heap.size, 3, none⟩ = some (.int .i64 s.group) := HSy.out.cell 3
        clear hbl hbc hr13 C0 C1 HZ1 HD0 HD1
        rcases HOB.out with ⟨he, hz⟩ | ⟨he, hh⟩
        · have he' : (eo != 0) = true := by simpa using he
          obtain rfl : o = zeroS := hz
          clear he
          go_wp2
          go_ret
          exact ⟨rfl, HBy.out⟩
        · obtain rfl : eo = 0 := he
          have hcl := HOWN.out o s.user s.group wc HBy.out
          have HH := Lib.hid hh
          obtain ⟨q, hq⟩ : ∃ q, q = ownR o c s.user s.group := ⟨_, rfl⟩
          rw [← hq] at hcl
          have hh2 : q.2 = 0 ∨ (q.2 ≠ 0 ∧ capB c 4 = false ∧ o.user ≠ c.user) := by rw [hq]; exact hh
          obtain ⟨q, h⟩ := q
          have HCL := Lib.hid hcl
          clear hcl hh hq
          go_wp2_with fail
          refine HCL.out.mono ?_
          rintro e wz ⟨rfl, hbz⟩
          have HBz := Lib.hid ((HBy.out.trans (hbz.mono HBy.out.size)).alloc (by have := HBy.out.size; have := hbz.size; omega) (.cells (cellsS q) 41))
          have p3 : (wz.alloc (.cells (cellsS q) 41)).cell? ⟨w.heap.size + 1, 3, none⟩ = some (.int .i64 c.caps) := ((HCy.out.keep hbz).alloc (.cells (cellsS q) 41)).cell 3
          have p0 : (wz.alloc (.cells (cellsS q) 41)).cell? ⟨w.heap.size + 1, 0, none⟩ = some (.int .i64 c.user) := ((HCy.out.keep hbz).alloc (.cells (cellsS q) 41)).cell 0
          have p2 : (wz.alloc (.cells (cellsS q) 41)).cell? ⟨b13, 2, none⟩ = some (.int .i64 o.user) := ((HRy.out.keep hbz).alloc (.cells (cellsS q) 41)).cell 2
          clear hbz l13 l5 g2 g3
          rcases hh2 with hh | ⟨hh, hcap, hu⟩
          · have hh' : (h == 0) = true := by simpa using hh
            obtain rfl : h = 0 := hh
            go_wp2
            go_ret
            exact ⟨rfl, HBz.out⟩
          · have hh' : (h == 0) = false := by simpa using hh
            have hcb : (bits .and .i64 c.caps 4 == 0) = true := by have := hcap; unfold capB at this; simpa using this
            have hu' : (o.user != c.user) = true := by simpa using hu
            clear hh hcap hu
            go_wp2
            go_ret
            exact ⟨rfl, HBz.out⟩
end Go.Proofs.Ytddfgdodpjmjfaa.CredLaw
