/- The walks of mode.Set and mode.Own. -/
import Derived.Test.YtddfgdodpjmjfaaModeEach
namespace Go.Proofs.Ytddfgdodpjmjfaa.CredLaw
open Go.RowKit
set_option linter.unusedVariables false
set_option linter.unusedSimpArgs false

abbrev W3 (w : World) (s : S) (c : C) (m : Value) : World := ((w.alloc (.cells #[.int .i64 s.kind, .int .i64 s.mode, .int .i64 s.user, .int .i64 s.group, .int .i64 s.size, .int .i64 s.links] 41)).alloc (.cells #[.int .i64 c.user, .int .i64 c.group, m, .int .i64 c.caps, .int .i64 c.level, .int .i64 c.kind] 44)).alloc (.cells #[.int .i64 0, .int .i64 0, .int .i64 0, .int .i64 0, .int .i64 0, .int .i64 0] 41)
theorem box3 {w w1 : World} {s : S} {c : C} {m : Value} (hb : Below (W3 w s c m).heap.size (W3 w s c m) w1) :
    w1.cell? ⟨w.heap.size, 0, none⟩ = some (.int .i64 s.kind) ∧
    w1.cell? ⟨w.heap.size, 1, none⟩ = some (.int .i64 s.mode) ∧
    w1.cell? ⟨w.heap.size, 2, none⟩ = some (.int .i64 s.user) ∧
    w1.cell? ⟨w.heap.size, 3, none⟩ = some (.int .i64 s.group) ∧
    w1.cell? ⟨w.heap.size, 4, none⟩ = some (.int .i64 s.size) ∧
    w1.cell? ⟨w.heap.size, 5, none⟩ = some (.int .i64 s.links) ∧
    w1.cell? ⟨w.heap.size + 1, 0, none⟩ = some (.int .i64 c.user) ∧
    w1.cell? ⟨w.heap.size + 1, 1, none⟩ = some (.int .i64 c.group) ∧
    w1.cell? ⟨w.heap.size + 1, 2, none⟩ = some (m) ∧
    w1.cell? ⟨w.heap.size + 1, 3, none⟩ = some (.int .i64 c.caps) ∧
    w1.cell? ⟨w.heap.size + 1, 4, none⟩ = some (.int .i64 c.level) ∧
    w1.cell? ⟨w.heap.size + 1, 5, none⟩ = some (.int .i64 c.kind) ∧
    w1.cell? ⟨w.heap.size + 2, 0, none⟩ = some (.int .i64 0) ∧
    w1.cell? ⟨w.heap.size + 2, 1, none⟩ = some (.int .i64 0) ∧
    w1.cell? ⟨w.heap.size + 2, 2, none⟩ = some (.int .i64 0) ∧
    w1.cell? ⟨w.heap.size + 2, 3, none⟩ = some (.int .i64 0) ∧
    w1.cell? ⟨w.heap.size + 2, 4, none⟩ = some (.int .i64 0) ∧
    w1.cell? ⟨w.heap.size + 2, 5, none⟩ = some (.int .i64 0) ∧
    w1.frozen? ⟨w.heap.size, 1, none⟩ = false ∧
    w1.frozen? ⟨w.heap.size, 2, none⟩ = false ∧
    w1.frozen? ⟨w.heap.size, 3, none⟩ = false ∧
    w1.frozen? ⟨w.heap.size + 2, 0, none⟩ = false ∧
    w1.frozen? ⟨w.heap.size + 2, 1, none⟩ = false ∧
    w1.frozen? ⟨w.heap.size + 2, 2, none⟩ = false ∧
    w1.frozen? ⟨w.heap.size + 2, 3, none⟩ = false ∧
    w1.frozen? ⟨w.heap.size + 2, 4, none⟩ = false ∧
    w1.frozen? ⟨w.heap.size + 2, 5, none⟩ = false ∧
    w.heap.size + 2 < w1.heap.size ∧
    Below w.heap.size w w1 := by
  have hA : Below w.heap.size w (W3 w s c m) := Go.Joins.below_alloc3 _ _ _ _
  have h0 : Has (W3 w s c m) w.heap.size [.int .i64 s.kind, .int .i64 s.mode, .int .i64 s.user, .int .i64 s.group, .int .i64 s.size, .int .i64 s.links] := ((has_new w [.int .i64 s.kind, .int .i64 s.mode, .int .i64 s.user, .int .i64 s.group, .int .i64 s.size, .int .i64 s.links] 41).alloc _).alloc _
  have h1 : Has (W3 w s c m) (w.heap.size + 1) [.int .i64 c.user, .int .i64 c.group, m, .int .i64 c.caps, .int .i64 c.level, .int .i64 c.kind] := by
    have := (has_new (w.alloc (.cells #[.int .i64 s.kind, .int .i64 s.mode, .int .i64 s.user, .int .i64 s.group, .int .i64 s.size, .int .i64 s.links] 41)) [.int .i64 c.user, .int .i64 c.group, m, .int .i64 c.caps, .int .i64 c.level, .int .i64 c.kind] 44).alloc (.cells #[.int .i64 0, .int .i64 0, .int .i64 0, .int .i64 0, .int .i64 0, .int .i64 0] 41)
    simpa using this
  have h2 : Has (W3 w s c m) (w.heap.size + 2) [.int .i64 0, .int .i64 0, .int .i64 0, .int .i64 0, .int .i64 0, .int .i64 0] := by
    have := has_new ((w.alloc (.cells #[.int .i64 s.kind, .int .i64 s.mode, .int .i64 s.user, .int .i64 s.group, .int .i64 s.size, .int .i64 s.links] 41)).alloc (.cells #[.int .i64 c.user, .int .i64 c.group, m, .int .i64 c.caps, .int .i64 c.level, .int .i64 c.kind] 44)) [.int .i64 0, .int .i64 0, .int .i64 0, .int .i64 0, .int .i64 0, .int .i64 0] 41
    simpa using this
  have k0 := h0.keep hb
  have k1 := h1.keep hb
  have k2 := h2.keep hb
  have f1 : (W3 w s c m).frozen? ⟨w.heap.size, 1, none⟩ = false := ((Go.Joins.below_alloc2 (w.alloc (.cells #[.int .i64 s.kind, .int .i64 s.mode, .int .i64 s.user, .int .i64 s.group, .int .i64 s.size, .int .i64 s.links] 41)) _ _).frozen (p := ⟨w.heap.size, 1, none⟩) (by simp)).trans (by simp)
  have f2 : (W3 w s c m).frozen? ⟨w.heap.size, 2, none⟩ = false := ((Go.Joins.below_alloc2 (w.alloc (.cells #[.int .i64 s.kind, .int .i64 s.mode, .int .i64 s.user, .int .i64 s.group, .int .i64 s.size, .int .i64 s.links] 41)) _ _).frozen (p := ⟨w.heap.size, 2, none⟩) (by simp)).trans (by simp)
  have f3 : (W3 w s c m).frozen? ⟨w.heap.size, 3, none⟩ = false := ((Go.Joins.below_alloc2 (w.alloc (.cells #[.int .i64 s.kind, .int .i64 s.mode, .int .i64 s.user, .int .i64 s.group, .int .i64 s.size, .int .i64 s.links] 41)) _ _).frozen (p := ⟨w.heap.size, 3, none⟩) (by simp)).trans (by simp)
  have e2 : ((w.alloc (.cells #[.int .i64 s.kind, .int .i64 s.mode, .int .i64 s.user, .int .i64 s.group, .int .i64 s.size, .int .i64 s.links] 41)).alloc (.cells #[.int .i64 c.user, .int .i64 c.group, m, .int .i64 c.caps, .int .i64 c.level, .int .i64 c.kind] 44)).heap.size = w.heap.size + 2 := by simp
  have gg : ∀ i, (W3 w s c m).frozen? ⟨w.heap.size + 2, i, none⟩ = false := fun i => by
    rw [← e2]; exact frozen_of_row _ _ _ _ _ (heap_alloc_new _ _)
  have g0 := gg 0
  have g1 := gg 1
  have g2 := gg 2
  have g3 := gg 3
  have g4 := gg 4
  have g5 := gg 5
  exact ⟨k0.2 0 _ rfl, k0.2 1 _ rfl, k0.2 2 _ rfl, k0.2 3 _ rfl, k0.2 4 _ rfl, k0.2 5 _ rfl, k1.2 0 _ rfl, k1.2 1 _ rfl, k1.2 2 _ rfl, k1.2 3 _ rfl, k1.2 4 _ rfl, k1.2 5 _ rfl, k2.2 0 _ rfl, k2.2 1 _ rfl, k2.2 2 _ rfl, k2.2 3 _ rfl, k2.2 4 _ rfl, k2.2 5 _ rfl, (hb.frozen (p := ⟨w.heap.size, 1, none⟩) h0.1).trans f1, (hb.frozen (p := ⟨w.heap.size, 2, none⟩) h0.1).trans f2, (hb.frozen (p := ⟨w.heap.size, 3, none⟩) h0.1).trans f3, (hb.frozen (p := ⟨w.heap.size + 2, 0, none⟩) h2.1).trans g0, (hb.frozen (p := ⟨w.heap.size + 2, 1, none⟩) h2.1).trans g1, (hb.frozen (p := ⟨w.heap.size + 2, 2, none⟩) h2.1).trans g2, (hb.frozen (p := ⟨w.heap.size + 2, 3, none⟩) h2.1).trans g3, (hb.frozen (p := ⟨w.heap.size + 2, 4, none⟩) h2.1).trans g4, (hb.frozen (p := ⟨w.heap.size + 2, 5, none⟩) h2.1).trans g5, k2.1, hA.trans (hb.mono hA.size)⟩

def zeroS : S := ⟨0, 0, 0, 0, 0, 0⟩
def setR (s : S) (c : C) (n : Int) : S × Int :=
  if (mayR s c 0).2 = 0 then (if 0 ≤ n ∧ n ≤ 511 then (if c.user = s.user ∨ capB c 4 = true then ({ s with mode := n }, 0) else (zeroS, 7)) else (zeroS, 1)) else (zeroS, (mayR s c 0).2)

set_option maxRecDepth 100000 in
set_option maxHeartbeats 4000000 in
theorem set_is {w : World} {v : Value} {c : C} (s : S) (n : Int) (h : IsC w v c) :
    Calls Try.prog 25 #[encS s, v, .int .i64 n] w fun e w' => e = .returned (.tuple #[encS (setR s c n).1, .int .i64 (setR s c n).2]) ∧ Below w.heap.size w w' := by
  obtain ⟨m, rfl, hm⟩ := h
  have hmay := may_is (w := W3 w s c m) (c := c) s 0 ⟨m, rfl, hm.keep (Go.Joins.below_alloc3 _ _ _ _)⟩
  simp only [encS, encC, W3] at hmay
  simp only [encC]
  have HMAY := Lib.hid hmay
  clear hmay hm
  by_cases hz : (mayR s c 0).2 = 0
  · obtain ⟨a, ha⟩ : ∃ a, mayR s c 0 = (a, 0) := ⟨(mayR s c 0).1, Prod.ext rfl hz⟩
    have HR := Lib.hid ha
    have HZ := Lib.hid hz
    clear ha hz
    by_cases hn : 0 ≤ n ∧ n ≤ 511
    · have HN := Lib.hid hn
      obtain ⟨n0, n1⟩ := hn
      by_cases hu : c.user = s.user
      · have hub : (c.user != s.user) = false := by simp [hu]
        have HS := Lib.hid (show setR s c n = ({ s with mode := n }, 0) by rw [setR, if_pos HZ.out, if_pos HN.out, if_pos (.inl hu)])
        clear hu
        rw [HS.out]
        simp only [encS]
        go_enter Try.func25, Try.ntmps25
        go_wp2_with fail
        refine HMAY.out.mono ?_
        rintro e w1 ⟨rfl, hb1⟩
        rw [HR.out]
        obtain ⟨s0, s1, s2, s3, s4, s5, c0, c1, c2, c3, c4, c5, r0, r1, r2, r3, r4, r5, fs1, fs2, fs3, fr0, fr1, fr2, fr3, fr4, fr5, hsz, hB⟩ := box3 hb1
        clear hb1
        go_wp2
        refine bodyPost_ret (v := .tuple #[.agg #[.int .i64 s.kind, .int .i64 n, .int .i64 s.user, .int .i64 s.group, .int .i64 s.size, .int .i64 s.links], .int .i64 0]) (by simp [results, Try.results25, go_sem, s0, s1, s2, s3, s4, s5, c0, c1, c2, c3, c4, c5, r0, r1, r2, r3, r4, r5]) rfl ⟨rfl, ?_⟩
        repeat (first | refine Below.setCell ?_ (by simp <;> omega) _ | refine Below.drew ?_)
        exact hB
      · have hub : (c.user != s.user) = true := by simp [hu]
        cases hcap : capB c 4
        · have hcb : (bits .and .i64 c.caps 4 == 0) = true := by have := hcap; unfold capB at this; simpa using this
          have HS := Lib.hid (show setR s c n = (zeroS, 7) by rw [setR, if_pos HZ.out, if_pos HN.out, if_neg (by rw [hcap]; simp [hu])])
          clear hu hcap
          rw [HS.out]
          simp only [encS, zeroS]
          go_enter Try.func25, Try.ntmps25
          go_wp2_with fail
          refine HMAY.out.mono ?_
          rintro e w1 ⟨rfl, hb1⟩
          rw [HR.out]
          obtain ⟨s0, s1, s2, s3, s4, s5, c0, c1, c2, c3, c4, c5, r0, r1, r2, r3, r4, r5, fs1, fs2, fs3, fr0, fr1, fr2, fr3, fr4, fr5, hsz, hB⟩ := box3 hb1
          clear hb1
          go_wp2
          refine bodyPost_ret (v := .tuple #[.agg #[.int .i64 0, .int .i64 0, .int .i64 0, .int .i64 0, .int .i64 0, .int .i64 0], .int .i64 7]) (by simp [results, Try.results25, go_sem, s0, s1, s2, s3, s4, s5, c0, c1, c2, c3, c4, c5, r0, r1, r2, r3, r4, r5]) rfl ⟨rfl, ?_⟩
          repeat (first | refine Below.setCell ?_ (by simp <;> omega) _ | refine Below.drew ?_)
          exact hB
        · have hcb : (bits .and .i64 c.caps 4 == 0) = false := by have := hcap; unfold capB at this; simpa using this
          have HS := Lib.hid (show setR s c n = ({ s with mode := n }, 0) by rw [setR, if_pos HZ.out, if_pos HN.out, if_pos (.inr hcap)])
          clear hu hcap
          rw [HS.out]
          simp only [encS]
          go_enter Try.func25, Try.ntmps25
          go_wp2_with fail
          refine HMAY.out.mono ?_
          rintro e w1 ⟨rfl, hb1⟩
          rw [HR.out]
          obtain ⟨s0, s1, s2, s3, s4, s5, c0, c1, c2, c3, c4, c5, r0, r1, r2, r3, r4, r5, fs1, fs2, fs3, fr0, fr1, fr2, fr3, fr4, fr5, hsz, hB⟩ := box3 hb1
          clear hb1
          go_wp2
          refine bodyPost_ret (v := .tuple #[.agg #[.int .i64 s.kind, .int .i64 n, .int .i64 s.user, .int .i64 s.group, .int .i64 s.size, .int .i64 s.links], .int .i64 0]) (by simp [results, Try.results25, go_sem, s0, s1, s2, s3, s4, s5, c0, c1, c2, c3, c4, c5, r0, r1, r2, r3, r4, r5]) rfl ⟨rfl, ?_⟩
          repeat (first | refine Below.setCell ?_ (by simp <;> omega) _ | refine Below.drew ?_)
          exact hB
    · have HS := Lib.hid (show setR s c n = (zeroS, 1) by rw [setR, if_pos HZ.out, if_neg hn])
      have hcase : n < 0 ∨ (0 ≤ n ∧ 511 < n) := by omega
      clear hn
      rw [HS.out]
      simp only [encS, zeroS]
      rcases hcase with hh | hh
      all_goals
        go_enter Try.func25, Try.ntmps25
        go_wp2_with fail
        refine HMAY.out.mono ?_
        rintro e w1 ⟨rfl, hb1⟩
        rw [HR.out]
        obtain ⟨s0, s1, s2, s3, s4, s5, c0, c1, c2, c3, c4, c5, r0, r1, r2, r3, r4, r5, fs1, fs2, fs3, fr0, fr1, fr2, fr3, fr4, fr5, hsz, hB⟩ := box3 hb1
        clear hb1
        go_wp2
        refine bodyPost_ret (v := .tuple #[.agg #[.int .i64 0, .int .i64 0, .int .i64 0, .int .i64 0, .int .i64 0, .int .i64 0], .int .i64 1]) (by simp [results, Try.results25, go_sem, s0, s1, s2, s3, s4, s5, c0, c1, c2, c3, c4, c5, r0, r1, r2, r3, r4, r5]) rfl ⟨rfl, ?_⟩
        repeat (first | refine Below.setCell ?_ (by simp <;> omega) _ | refine Below.drew ?_)
        exact hB
  · have hne : ((mayR s c 0).2 != 0) = true := by simp [hz]
    have HS := Lib.hid (show setR s c n = (zeroS, (mayR s c 0).2) by rw [setR, if_neg hz])
    rw [HS.out]
    obtain ⟨r, hr⟩ : ∃ r, r = mayR s c 0 := ⟨_, rfl⟩
    rw [← hr] at hne ⊢
    obtain ⟨ra, rb⟩ := r
    simp only at hne
    have HR := Lib.hid hr.symm
    clear hz hr
    simp only [encS, zeroS]
    go_enter Try.func25, Try.ntmps25
    go_wp2_with fail
    refine HMAY.out.mono ?_
    rintro e w1 ⟨rfl, hb1⟩
    rw [HR.out]
    obtain ⟨s0, s1, s2, s3, s4, s5, c0, c1, c2, c3, c4, c5, r0, r1, r2, r3, r4, r5, fs1, fs2, fs3, fr0, fr1, fr2, fr3, fr4, fr5, hsz, hB⟩ := box3 hb1
    clear hb1
    go_wp2
    refine bodyPost_ret (v := .tuple #[.agg #[.int .i64 0, .int .i64 0, .int .i64 0, .int .i64 0, .int .i64 0, .int .i64 0], .int .i64 rb]) (by simp [results, Try.results25, go_sem, s0, s1, s2, s3, s4, s5, c0, c1, c2, c3, c4, c5, r0, r1, r2, r3, r4, r5]) rfl ⟨rfl, ?_⟩
    repeat (first | refine Below.setCell ?_ (by simp <;> omega) _ | refine Below.drew ?_)
    exact hB

def ownR (s : S) (c : C) (user group : Int) : S × Int :=
  if (mayR s c 0).2 = 0 then (if (0 ≤ user ∧ user ≤ 99) ∧ 0 ≤ group ∧ group ≤ 99 then (if capB c 4 = true ∨ (c.user = s.user ∧ user = s.user ∧ (inC c group = true ∨ group = s.group)) then ({ s with user := user, group := group }, 0) else (zeroS, 7)) else (zeroS, 1)) else (zeroS, (mayR s c 0).2)

set_option maxRecDepth 100000 in
set_option maxHeartbeats 4000000 in
theorem own_is {w : World} {v : Value} {c : C} (s : S) (user group : Int) (h : IsC w v c) :
    Calls Try.prog 26 #[encS s, v, .int .i64 user, .int .i64 group] w fun e w' => e = .returned (.tuple #[encS (ownR s c user group).1, .int .i64 (ownR s c user group).2]) ∧ Below w.heap.size w w' := by
  obtain ⟨m, rfl, hm⟩ := h
  have hmay := may_is (w := W3 w s c m) (c := c) s 0 ⟨m, rfl, hm.keep (Go.Joins.below_alloc3 _ _ _ _)⟩
  simp only [encS, encC, W3] at hmay
  simp only [encC]
  have HMAY := Lib.hid hmay
  have HM := Lib.hid hm
  clear hmay hm
  by_cases hz : (mayR s c 0).2 = 0
  · obtain ⟨a, ha⟩ : ∃ a, mayR s c 0 = (a, 0) := ⟨(mayR s c 0).1, Prod.ext rfl hz⟩
    have hin := fun (w' : World) (hb : Below w.heap.size w w') => in_is (w := w') (c := c) group ⟨m, rfl, HM.out.keep hb⟩ (mayR_ok hz).1
    simp only [encC] at hin
    have HIN := Lib.hid hin
    have HR := Lib.hid ha
    have HZ := Lib.hid hz
    clear ha hz hin
    by_cases hn : (0 ≤ user ∧ user ≤ 99) ∧ 0 ≤ group ∧ group ≤ 99
    · have HN := Lib.hid hn
      obtain ⟨⟨n0, n1⟩, n2, n3⟩ := hn
      cases hcap : capB c 4
      · have hcb : (bits .and .i64 c.caps 4 == 0) = true := by have := hcap; unfold capB at this; simpa using this
        by_cases hu : c.user = s.user
        · have hub : (c.user != s.user) = false := by simp [hu]
          by_cases hv : user = s.user
          · have hvb : (user != s.user) = false := by simp [hv]
            cases hi : inC c group
            · have HI := Lib.hid hi
              by_cases hg : group = s.group
              · have hgb : (group != s.group) = false := by simp [hg]
                have HS := Lib.hid (show ownR s c user group = ({ s with user := user, group := group }, 0) by rw [ownR, if_pos HZ.out, if_pos HN.out, if_pos (.inr ⟨hu, hv, .inr hg⟩)])
                clear hu hcap hv hg hi
                rw [HS.out]
                simp only [encS]
                go_enter Try.func26, Try.ntmps26
                go_wp2_with fail
                refine HMAY.out.mono ?_
                rintro e w1 ⟨rfl, hb1⟩
                rw [HR.out]
                obtain ⟨s0, s1, s2, s3, s4, s5, c0, c1, c2, c3, c4, c5, r0, r1, r2, r3, r4, r5, fs1, fs2, fs3, fr0, fr1, fr2, fr3, fr4, fr5, hsz, hB⟩ := box3 hb1
                go_wp2_with fail
                refine (HIN.out _ hB).mono ?_
                rintro e w2 ⟨rfl, hb2⟩
                rw [HI.out]
                clear s0 s1 s2 s3 s4 s5 c0 c1 c2 c3 c4 c5 r0 r1 r2 r3 r4 r5 fs1 fs2 fs3 fr0 fr1 fr2 fr3 fr4 fr5 hsz hB
                obtain ⟨s0, s1, s2, s3, s4, s5, c0, c1, c2, c3, c4, c5, r0, r1, r2, r3, r4, r5, fs1, fs2, fs3, fr0, fr1, fr2, fr3, fr4, fr5, hsz, hB⟩ := box3 (hb1.trans (hb2.mono hb1.size))
                clear hb1 hb2
                go_wp2
                refine bodyPost_ret (v := .tuple #[.agg #[.int .i64 s.kind, .int .i64 s.mode, .int .i64 user, .int .i64 group, .int .i64 s.size, .int .i64 s.links], .int .i64 0]) (by simp [results, Try.results26, go_sem, s0, s1, s2, s3, s4, s5, c0, c1, c2, c3, c4, c5, r0, r1, r2, r3, r4, r5]) rfl ⟨rfl, ?_⟩
                repeat (first | refine Below.setCell ?_ (by simp <;> omega) _ | refine Below.drew ?_)
                exact hB
              · have hgb : (group != s.group) = true := by simp [hg]
                have HS := Lib.hid (show ownR s c user group = (zeroS, 7) by rw [ownR, if_pos HZ.out, if_pos HN.out, if_neg (by rw [hcap, hi]; simp [hg])])
                clear hu hcap hv hg hi
                rw [HS.out]
                simp only [encS, zeroS]
                go_enter Try.func26, Try.ntmps26
                go_wp2_with fail
                refine HMAY.out.mono ?_
                rintro e w1 ⟨rfl, hb1⟩
                rw [HR.out]
                obtain ⟨s0, s1, s2, s3, s4, s5, c0, c1, c2, c3, c4, c5, r0, r1, r2, r3, r4, r5, fs1, fs2, fs3, fr0, fr1, fr2, fr3, fr4, fr5, hsz, hB⟩ := box3 hb1
                go_wp2_with fail
                refine (HIN.out _ hB).mono ?_
                rintro e w2 ⟨rfl, hb2⟩
                rw [HI.out]
                clear s0 s1 s2 s3 s4 s5 c0 c1 c2 c3 c4 c5 r0 r1 r2 r3 r4 r5 fs1 fs2 fs3 fr0 fr1 fr2 fr3 fr4 fr5 hsz hB
                obtain ⟨s0, s1, s2, s3, s4, s5, c0, c1, c2, c3, c4, c5, r0, r1, r2, r3, r4, r5, fs1, fs2, fs3, fr0, fr1, fr2, fr3, fr4, fr5, hsz, hB⟩ := box3 (hb1.trans (hb2.mono hb1.size))
                clear hb1 hb2
                go_wp2
                refine bodyPost_ret (v := .tuple #[.agg #[.int .i64 0, .int .i64 0, .int .i64 0, .int .i64 0, .int .i64 0, .int .i64 0], .int .i64 7]) (by simp [results, Try.results26, go_sem, s0, s1, s2, s3, s4, s5, c0, c1, c2, c3, c4, c5, r0, r1, r2, r3, r4, r5]) rfl ⟨rfl, ?_⟩
                repeat (first | refine Below.setCell ?_ (by simp <;> omega) _ | refine Below.drew ?_)
                exact hB
            · have HI := Lib.hid hi
              have HS := Lib.hid (show ownR s c user group = ({ s with user := user, group := group }, 0) by rw [ownR, if_pos HZ.out, if_pos HN.out, if_pos (.inr ⟨hu, hv, .inl hi⟩)])
              clear hu hcap hv hi
              rw [HS.out]
              simp only [encS]
              go_enter Try.func26, Try.ntmps26
              go_wp2_with fail
              refine HMAY.out.mono ?_
              rintro e w1 ⟨rfl, hb1⟩
              rw [HR.out]
              obtain ⟨s0, s1, s2, s3, s4, s5, c0, c1, c2, c3, c4, c5, r0, r1, r2, r3, r4, r5, fs1, fs2, fs3, fr0, fr1, fr2, fr3, fr4, fr5, hsz, hB⟩ := box3 hb1
              go_wp2_with fail
              refine (HIN.out _ hB).mono ?_
              rintro e w2 ⟨rfl, hb2⟩
              rw [HI.out]
              clear s0 s1 s2 s3 s4 s5 c0 c1 c2 c3 c4 c5 r0 r1 r2 r3 r4 r5 fs1 fs2 fs3 fr0 fr1 fr2 fr3 fr4 fr5 hsz hB
              obtain ⟨s0, s1, s2, s3, s4, s5, c0, c1, c2, c3, c4, c5, r0, r1, r2, r3, r4, r5, fs1, fs2, fs3, fr0, fr1, fr2, fr3, fr4, fr5, hsz, hB⟩ := box3 (hb1.trans (hb2.mono hb1.size))
              clear hb1 hb2
              go_wp2
              refine bodyPost_ret (v := .tuple #[.agg #[.int .i64 s.kind, .int .i64 s.mode, .int .i64 user, .int .i64 group, .int .i64 s.size, .int .i64 s.links], .int .i64 0]) (by simp [results, Try.results26, go_sem, s0, s1, s2, s3, s4, s5, c0, c1, c2, c3, c4, c5, r0, r1, r2, r3, r4, r5]) rfl ⟨rfl, ?_⟩
              repeat (first | refine Below.setCell ?_ (by simp <;> omega) _ | refine Below.drew ?_)
              exact hB
          · have hvb : (user != s.user) = true := by simp [hv]
            have HS := Lib.hid (show ownR s c user group = (zeroS, 7) by rw [ownR, if_pos HZ.out, if_pos HN.out, if_neg (by rw [hcap]; simp [hv])])
            clear hu hcap hv
            rw [HS.out]
            simp only [encS, zeroS]
            go_enter Try.func26, Try.ntmps26
            go_wp2_with fail
            refine HMAY.out.mono ?_
            rintro e w1 ⟨rfl, hb1⟩
            rw [HR.out]
            obtain ⟨s0, s1, s2, s3, s4, s5, c0, c1, c2, c3, c4, c5, r0, r1, r2, r3, r4, r5, fs1, fs2, fs3, fr0, fr1, fr2, fr3, fr4, fr5, hsz, hB⟩ := box3 hb1
            go_wp2_with fail
            refine (HIN.out _ hB).mono ?_
            rintro e w2 ⟨rfl, hb2⟩
            clear s0 s1 s2 s3 s4 s5 c0 c1 c2 c3 c4 c5 r0 r1 r2 r3 r4 r5 fs1 fs2 fs3 fr0 fr1 fr2 fr3 fr4 fr5 hsz hB
            obtain ⟨s0, s1, s2, s3, s4, s5, c0, c1, c2, c3, c4, c5, r0, r1, r2, r3, r4, r5, fs1, fs2, fs3, fr0, fr1, fr2, fr3, fr4, fr5, hsz, hB⟩ := box3 (hb1.trans (hb2.mono hb1.size))
            clear hb1 hb2
            go_wp2
            refine bodyPost_ret (v := .tuple #[.agg #[.int .i64 0, .int .i64 0, .int .i64 0, .int .i64 0, .int .i64 0, .int .i64 0], .int .i64 7]) (by simp [results, Try.results26, go_sem, s0, s1, s2, s3, s4, s5, c0, c1, c2, c3, c4, c5, r0, r1, r2, r3, r4, r5]) rfl ⟨rfl, ?_⟩
            repeat (first | refine Below.setCell ?_ (by simp <;> omega) _ | refine Below.drew ?_)
            exact hB
        · have hub : (c.user != s.user) = true := by simp [hu]
          have HS := Lib.hid (show ownR s c user group = (zeroS, 7) by rw [ownR, if_pos HZ.out, if_pos HN.out, if_neg (by rw [hcap]; simp [hu])])
          clear hu hcap
          rw [HS.out]
          simp only [encS, zeroS]
          go_enter Try.func26, Try.ntmps26
          go_wp2_with fail
          refine HMAY.out.mono ?_
          rintro e w1 ⟨rfl, hb1⟩
          rw [HR.out]
          obtain ⟨s0, s1, s2, s3, s4, s5, c0, c1, c2, c3, c4, c5, r0, r1, r2, r3, r4, r5, fs1, fs2, fs3, fr0, fr1, fr2, fr3, fr4, fr5, hsz, hB⟩ := box3 hb1
          go_wp2_with fail
          refine (HIN.out _ hB).mono ?_
          rintro e w2 ⟨rfl, hb2⟩
          clear s0 s1 s2 s3 s4 s5 c0 c1 c2 c3 c4 c5 r0 r1 r2 r3 r4 r5 fs1 fs2 fs3 fr0 fr1 fr2 fr3 fr4 fr5 hsz hB
          obtain ⟨s0, s1, s2, s3, s4, s5, c0, c1, c2, c3, c4, c5, r0, r1, r2, r3, r4, r5, fs1, fs2, fs3, fr0, fr1, fr2, fr3, fr4, fr5, hsz, hB⟩ := box3 (hb1.trans (hb2.mono hb1.size))
          clear hb1 hb2
          go_wp2
          refine bodyPost_ret (v := .tuple #[.agg #[.int .i64 0, .int .i64 0, .int .i64 0, .int .i64 0, .int .i64 0, .int .i64 0], .int .i64 7]) (by simp [results, Try.results26, go_sem, s0, s1, s2, s3, s4, s5, c0, c1, c2, c3, c4, c5, r0, r1, r2, r3, r4, r5]) rfl ⟨rfl, ?_⟩
          repeat (first | refine Below.setCell ?_ (by simp <;> omega) _ | refine Below.drew ?_)
          exact hB
      · have hcb : (bits .and .i64 c.caps 4 == 0) = false := by have := hcap; unfold capB at this; simpa using this
        have HS := Lib.hid (show ownR s c user group = ({ s with user := user, group := group }, 0) by rw [ownR, if_pos HZ.out, if_pos HN.out, if_pos (.inl hcap)])
        clear hcap
        rw [HS.out]
        simp only [encS]
        go_enter Try.func26, Try.ntmps26
        go_wp2_with fail
        refine HMAY.out.mono ?_
        rintro e w1 ⟨rfl, hb1⟩
        rw [HR.out]
        obtain ⟨s0, s1, s2, s3, s4, s5, c0, c1, c2, c3, c4, c5, r0, r1, r2, r3, r4, r5, fs1, fs2, fs3, fr0, fr1, fr2, fr3, fr4, fr5, hsz, hB⟩ := box3 hb1
        clear hb1
        go_wp2
        refine bodyPost_ret (v := .tuple #[.agg #[.int .i64 s.kind, .int .i64 s.mode, .int .i64 user, .int .i64 group, .int .i64 s.size, .int .i64 s.links], .int .i64 0]) (by simp [results, Try.results26, go_sem, s0, s1, s2, s3, s4, s5, c0, c1, c2, c3, c4, c5, r0, r1, r2, r3, r4, r5]) rfl ⟨rfl, ?_⟩
        repeat (first | refine Below.setCell ?_ (by simp <;> omega) _ | refine Below.drew ?_)
        exact hB
    · have HS := Lib.hid (show ownR s c user group = (zeroS, 1) by rw [ownR, if_pos HZ.out, if_neg hn])
      have hcase : user < 0 ∨ (0 ≤ user ∧ 99 < user) ∨ ((0 ≤ user ∧ user ≤ 99) ∧ group < 0) ∨ ((0 ≤ user ∧ user ≤ 99) ∧ 0 ≤ group ∧ 99 < group) := by omega
      clear hn
      rw [HS.out]
      simp only [encS, zeroS]
      rcases hcase with hh | hh | hh | hh
      all_goals
        go_enter Try.func26, Try.ntmps26
        go_wp2_with fail
        refine HMAY.out.mono ?_
        rintro e w1 ⟨rfl, hb1⟩
        rw [HR.out]
        obtain ⟨s0, s1, s2, s3, s4, s5, c0, c1, c2, c3, c4, c5, r0, r1, r2, r3, r4, r5, fs1, fs2, fs3, fr0, fr1, fr2, fr3, fr4, fr5, hsz, hB⟩ := box3 hb1
        clear hb1
        go_wp2
        refine bodyPost_ret (v := .tuple #[.agg #[.int .i64 0, .int .i64 0, .int .i64 0, .int .i64 0, .int .i64 0, .int .i64 0], .int .i64 1]) (by simp [results, Try.results26, go_sem, s0, s1, s2, s3, s4, s5, c0, c1, c2, c3, c4, c5, r0, r1, r2, r3, r4, r5]) rfl ⟨rfl, ?_⟩
        repeat (first | refine Below.setCell ?_ (by simp <;> omega) _ | refine Below.drew ?_)
        exact hB
  · have hne : ((mayR s c 0).2 != 0) = true := by simp [hz]
    have HS := Lib.hid (show ownR s c user group = (zeroS, (mayR s c 0).2) by rw [ownR, if_neg hz])
    rw [HS.out]
    obtain ⟨r, hr⟩ : ∃ r, r = mayR s c 0 := ⟨_, rfl⟩
    rw [← hr] at hne ⊢
    obtain ⟨ra, rb⟩ := r
    simp only at hne
    have HR := Lib.hid hr.symm
    clear hz hr
    simp only [encS, zeroS]
    go_enter Try.func26, Try.ntmps26
    go_wp2_with fail
    refine HMAY.out.mono ?_
    rintro e w1 ⟨rfl, hb1⟩
    rw [HR.out]
    obtain ⟨s0, s1, s2, s3, s4, s5, c0, c1, c2, c3, c4, c5, r0, r1, r2, r3, r4, r5, fs1, fs2, fs3, fr0, fr1, fr2, fr3, fr4, fr5, hsz, hB⟩ := box3 hb1
    clear hb1
    go_wp2
    refine bodyPost_ret (v := .tuple #[.agg #[.int .i64 0, .int .i64 0, .int .i64 0, .int .i64 0, .int .i64 0, .int .i64 0], .int .i64 rb]) (by simp [results, Try.results26, go_sem, s0, s1, s2, s3, s4, s5, c0, c1, c2, c3, c4, c5, r0, r1, r2, r3, r4, r5]) rfl ⟨rfl, ?_⟩
    repeat (first | refine Below.setCell ?_ (by simp <;> omega) _ | refine Below.drew ?_)
    exact hB

end Go.Proofs.Ytddfgdodpjmjfaa.CredLaw
