/- The walk of ringkeep5.LabelDown. -/
import Derived.Test.YtgdihccmkleimaaDownTaint
import Derived.Test.YtgdihccmkleimaaLabelLattice
namespace Go.Proofs.Ytgdihccmkleimaa.LabelLaw
open Go.RowKit
set_option linter.unusedVariables false

def IndexPost (xs : List Int) (x : Int) (w : World) (e : Ending) (w' : World) : Prop :=
  ∃ r : Int, e = .returned (.int .i64 r) ∧ decide (0 ≤ r) = xs.contains x ∧ w = w'
theorem contains_at {xs : List Int} {x : Int} {k : Nat} (hk : k < xs.length) (h : x = xs.getD k 0) : xs.contains x = true := by
  simp only [List.contains_iff_mem]
  rw [h]
  have : xs.getD k 0 = xs[k] := by simp [List.getD, hk]
  rw [this]; exact List.getElem_mem hk
theorem contains_none {xs : List Int} {x : Int} (h : ∀ j, j < xs.length → xs.getD j 0 ≠ x) : xs.contains x = false := by
  rw [Bool.eq_false_iff]
  intro hc
  rw [List.contains_iff_mem] at hc
  obtain ⟨j, hj, he⟩ := List.mem_iff_getElem.1 hc
  exact h j hj (by simp [List.getD, hj, he])

theorem index_any {w : World} {m : Value} {xs : List Int} (x : Int) (hm : At (Value.int .i64) 0 w m xs) (h63 : xs.length ≤ 4294967296) :
    Calls Try.prog 55 #[m, .int .i64 x] w (IndexPost xs x w) := by
  obtain ⟨a, cap, rfl, hl, hcap, hm⟩ := hm
  rcases hm with hnil | ⟨b, off, rfl, hlt, hcell⟩
  · subst hnil
    simp only [List.length_nil] at hl ⊢
    go_enter Try.func55, Try.ntmps55
    go_wp2
    refine wp_loop_rounds 1 ?_
    rw [rounds_succ]
    go_wp2
    go_ret
    exact ⟨-1, rfl, rfl, rfl⟩
  · obtain ⟨n, hn⟩ : ∃ n, n = xs.length := ⟨_, rfl⟩
    rw [← hn] at hl h63 ⊢
    have HN := Lib.hid hn
    have HC := Lib.hid hcell
    clear hn hcell
    unfold IndexPost
    go_enter Try.func55, Try.ntmps55
    go_wp2
    go_loop [8] (fun i => ∃ k : Nat, k ≤ n ∧ i = .int .i64 k ∧ Hid (∀ j, j < k → xs.getD j 0 ≠ x)) (fun i => n - (intOf i).toNat)
    case atStart => exact ⟨0, Nat.zero_le _, rfl, fun j hj => absurd hj (Nat.not_lt_zero _)⟩
    case round =>
      obtain ⟨k, hk, rfl, HM⟩ := hrel
      by_cases hkn : k < n
      · obtain ⟨y, hy⟩ : ∃ y, y = xs.getD k 0 := ⟨_, rfl⟩
        have g1 := HC.out k (by rw [← HN.out]; exact hkn)
        rw [← hy] at g1
        have HY := Lib.hid hy
        clear hy
        by_cases hxy : x = y
        · have hb : (x == y) = true := by simp [hxy]
          have HXY := Lib.hid hxy
          clear hxy
          go_wp2
          go_ret
          refine ⟨k, rfl, ?_, rfl⟩
          have hct := contains_at (by rw [← HN.out]; exact hkn) (HXY.out.trans HY.out)
          simp at hct
          simp [hct]
        · have hb : (x == y) = false := by simp [hxy]
          have HXY := Lib.hid hxy
          clear hxy
          go_wp2
          go_round
          case rel =>
            refine ⟨k + 1, by omega, by go_num, fun j hj => ?_⟩
            rcases Nat.lt_succ_iff_lt_or_eq.1 hj with h | rfl
            · exact HM.out j h
            · rw [← HY.out]; exact fun e => HXY.out e.symm
          case measure => simp [intOf]; omega
      · obtain rfl : k = n := by omega
        go_wp2
        go_ret
        refine ⟨-1, rfl, ?_, rfl⟩
        have hct := contains_none (fun j hj => HM.out j (by rw [HN.out]; exact hj))
        simp at hct
        simp [hct]
theorem contains_any {w : World} {m : Value} {xs : List Int} (x : Int) (hm : At (Value.int .i64) 0 w m xs) (h63 : xs.length ≤ 4294967296) :
    Calls Try.prog 29 #[m, .int .i64 x] w fun e w' => e = .returned (.bool (xs.contains x)) ∧ w = w' := by
  have HI := Lib.hid (index_any x hm h63)
  clear hm
  go_enter Try.func29, Try.ntmps29
  go_wp2_with fail
  refine HI.out.mono ?_
  rintro e w1 ⟨r, rfl, hr, rfl⟩
  have HR := Lib.hid hr
  clear hr
  go_wp2
  go_ret
  exact ⟨ret_bool HR.out, rfl⟩


set_option maxRecDepth 100000 in
set_option maxHeartbeats 4000000 in
theorem labeldown_any {w : World} {v0 v1 v2 : Value} {who what : List Lab} {acts : List Act} (fr : Int) (h0 : LabS w v0 who) (h1 : LabS w v1 what) (h2 : ActS w v2 acts) :
    Calls Try.prog 7 #[v0, v1, v2, .int .i64 fr] w fun e w' => e = .returned (.bool true) ∧ Below w.heap.size w w' := by
  have htaint := fun w' (hb : Below w.heap.size w w') => taint_is (w := w') fr (h0.below hb) (h1.below hb) (h2.below hb)
  have HTA := Lib.hid htaint
  clear htaint h2
  obtain ⟨a0, cap0, rfl, hl0, h0⟩ := h0
  obtain ⟨a1, cap1, rfl, hl1, h1⟩ := h1
  obtain ⟨n0, hn0⟩ : ∃ n, n = who.length := ⟨_, rfl⟩
  obtain ⟨n1, hn1⟩ : ∃ n, n = what.length := ⟨_, rfl⟩
  rw [← hn0] at hl0 h0 HTA ⊢
  rw [← hn1] at hl1 h1 HTA ⊢
  have N0 := Lib.hid hn0
  have N1 := Lib.hid hn1
  have H0 := Lib.hid h0
  have H1 := Lib.hid h1
  clear hn0 hn1 h0 h1
  go_enter Try.func7, Try.ntmps7
  go_wp2_with fail
  refine (labels_any _).mono ?_
  rintro e w1 ⟨rfl, hb1⟩
  go_wp2_with fail
  refine (HTA.out _ hb1).mono ?_
  rintro e w2 ⟨vx, vy, en, xs, ys, rfl, hb2, hx, hy, hcase⟩
  have HB2 := Lib.hid (hb1.trans (hb2.mono hb1.size))
  clear hb1 hb2
  obtain ⟨ax, capx, rfl, hlx, hcx, hx⟩ := hx
  obtain ⟨ay, capy, rfl, hly, hcy, hyy⟩ := hy
  rcases hcase with ⟨rfl, ⟨hf0, hf1⟩, l6, m6, okw, okt, qx, qy, hmemy, hy6⟩ | ⟨hen, rfl, rfl⟩
  · obtain ⟨y, rfl⟩ : ∃ y : Nat, fr = y := ⟨fr.toNat, by omega⟩
    have hy : y < n1 := by have := N1.out; omega
    have HYA := Lib.hid (show At (Value.int .i64) 0 w2 (.slice ay ys.length capy) ys from ⟨ay, capy, rfl, hly, hcy, hyy⟩)
    obtain ⟨nx, hnx⟩ : ∃ n, n = xs.length := ⟨_, rfl⟩
    obtain ⟨ny, hny⟩ : ∃ n, n = ys.length := ⟨_, rfl⟩
    rw [← hnx] at hlx ⊢
    rw [← hny] at hly ⊢
    have hbx : nx ≤ maxLen := Nat.le_trans hlx hcx
    have hby : ny ≤ maxLen := Nat.le_trans hly hcy
    have NXE := Lib.hid hnx
    have NYE := Lib.hid hny
    rw [← hny] at HYA
    have HX := Lib.hid hx
    have HY := Lib.hid hyy
    have QX := Lib.hid qx
    have QY := Lib.hid qy
    have HW := Lib.hid okw
    have HT := Lib.hid okt
    have HM := Lib.hid hmemy
    have HL6 := Lib.hid (And.intro l6 m6)
    have HY6 := Lib.hid hy6
    unfold maxLen at hbx hby
    clear hy6 hx hyy qx qy okw okt hnx hny hmemy l6 m6 hf0 hf1 hcx hcy
    go_wp2_with fail
    generalize decide (n1 ≤ y) = g1
    generalize decide ((y : Int) < 0) = g2
    go_loopw [51] (fun iv wr => ∃ k : Nat, k ≤ nx ∧ iv = .int .i64 k ∧ Below w2.heap.size w2 wr) (fun iv _ => nx - (intOf iv).toNat)
    case atStart => exact ⟨0, Nat.zero_le _, rfl, Below.refl _ _⟩
    case round =>
      skip
      obtain ⟨k, hk, rfl, hbel⟩ := hrel
      by_cases hlt : k < nx
      · rcases HX.out with h | ⟨bx, offx, rfl, hbx, hcx⟩
        · have := NXE.out; rw [h] at this; simp at this; omega
        obtain ⟨i, hi⟩ : ∃ i, i = xs.getD k 0 := ⟨_, rfl⟩
        have gx := (hbel.cell (p := ⟨bx, offx + k, none⟩) hbx).trans (hcx k (by rw [← NXE.out]; exact hlt))
        rw [← hi] at gx
        have hmem : i ∈ xs := by
          have hkl : k < xs.length := by rw [← NXE.out]; exact hlt
          rw [hi]; simp only [List.getD, List.getElem?_eq_getElem hkl, Option.getD_some]; exact List.getElem_mem hkl
        obtain ⟨i0, i1, i2⟩ := QX.out i hmem
        obtain ⟨z, rfl⟩ : ∃ z : Nat, i = z := ⟨i.toNat, by omega⟩
        have hz : z < n0 := by have := N0.out; omega
        rcases H0.out with h | ⟨b0, off0, rfl, hb0, hc0⟩
        · omega
        rcases H1.out with h | ⟨b1, off1, rfl, hb1, hc1⟩
        · omega
        obtain ⟨p, hp⟩ : ∃ p, p = who.getD z lab0 := ⟨_, rfl⟩
        obtain ⟨q, hq⟩ : ∃ q, q = what.getD y lab0 := ⟨_, rfl⟩
        have hbw := HB2.out.trans (hbel.mono HB2.out.size)
        have p1 := (hbw.cell (p := ⟨b0, off0 + z * 2, none⟩) hb0).trans (hc0 z hz).1
        have p2 := (hbw.cell (p := ⟨b0, off0 + z * 2 + 1, none⟩) hb0).trans (hc0 z hz).2
        have q1 := (hbw.cell (p := ⟨b1, off1 + y * 2, none⟩) hb1).trans (hc1 y hy).1
        have q2 := (hbw.cell (p := ⟨b1, off1 + y * 2 + 1, none⟩) hb1).trans (hc1 y hy).2
        rw [← hp] at p1 p2
        rw [← hq] at q1 q2
        have hokp : okL p = true := by rw [hp]; exact HW.out z (by have := N0.out; omega)
        have hokq : okL q = true := by rw [hq]; exact HT.out y (by have := N1.out; omega)
        have hfl : flowsB q p = true := by
          rw [hq, hp]; simpa [at_] using i2
        skip
        have l0 := World.block_lt_of_cell? wr _ p1
        have l1 := World.block_lt_of_cell? wr _ q1
        have hboth : ∀ w', Below wr.heap.size wr w' → (Below wr.heap.size wr w' ∧ w'.cell? ⟨b1, off1 + y * 2, none⟩ = some (.int .i64 q.l) ∧ w'.cell? ⟨b1, off1 + y * 2 + 1, none⟩ = some (.int .i64 q.k) ∧ w'.cell? ⟨b0, off0 + z * 2, none⟩ = some (.int .i64 p.l) ∧ w'.cell? ⟨b0, off0 + z * 2 + 1, none⟩ = some (.int .i64 p.k)) := fun w' hb => ⟨hb, (hb.cell (p := ⟨b1, off1 + y * 2, none⟩) l1).trans q1, (hb.cell (p := ⟨b1, off1 + y * 2 + 1, none⟩) l1).trans q2, (hb.cell (p := ⟨b0, off0 + z * 2, none⟩) l0).trans p1, (hb.cell (p := ⟨b0, off0 + z * 2 + 1, none⟩) l0).trans p2⟩
        have HBO := Lib.hid hboth
        have HOP := Lib.hid hokp
        have HOQ := Lib.hid hokq
        have HFL := Lib.hid hfl
        clear hp hq hokp hokq hboth hfl p1 p2 q1 q2 hc0 hc1 hcx hmem i0 i1 i2 hbw l0 l1 hi
        go_wp2_with fail
        go_region_held3 (fun w' => Below wr.heap.size wr w' ∧ w'.cell? ⟨b1, off1 + y * 2, none⟩ = some (.int .i64 q.l) ∧ w'.cell? ⟨b1, off1 + y * 2 + 1, none⟩ = some (.int .i64 q.k) ∧ w'.cell? ⟨b0, off0 + z * 2, none⟩ = some (.int .i64 p.l) ∧ w'.cell? ⟨b0, off0 + z * 2 + 1, none⟩ = some (.int .i64 p.k)) (first | assumption | exact HBO.out _ (Below.refl _ _).drew | go_keep)
          (first | (go_at_call 24; refine (flows_ok q p _ HOQ.out HOP.out).mono ?_; rintro e w5 ⟨rfl, hb5⟩; have hS := HBO.out _ ((‹Below wr.heap.size wr _ ∧ _›).1.trans (hb5.mono (‹Below wr.heap.size wr _ ∧ _›).1.size))))
        obtain ⟨hB5, _⟩ := HBO.out _ (‹Below wr.heap.size wr w5 ∧ _›).1
        have hbel5 := hbel.trans (hB5.mono hbel.size)
        rw [HFL.out]
        clear hbel hB5
        go_wp2
        go_roundw
        case rel => exact ⟨k + 1, by omega, by go_num, hbel5⟩
        case measure => simp [intOf]; omega
      · obtain rfl : k = nx := by omega
        clear hlt hk
        go_wp2_with fail
        go_loopw [84] (fun iv wr => ∃ k : Nat, k ≤ ny ∧ iv = .int .i64 k ∧ Below w2.heap.size w2 wr) (fun iv _ => ny - (intOf iv).toNat)
        case atStart => exact ⟨0, Nat.zero_le _, rfl, hbel⟩
        case round =>
          clear hbel
          obtain ⟨k, hk, rfl, hbel⟩ := hrel
          by_cases hlt : k < ny
          · rcases HY.out with h | ⟨bx, offx, rfl, hbx, hcx⟩
            · have := NYE.out; rw [h] at this; simp at this; omega
            obtain ⟨i, hi⟩ : ∃ i, i = ys.getD k 0 := ⟨_, rfl⟩
            have gx := (hbel.cell (p := ⟨bx, offx + k, none⟩) hbx).trans (hcx k (by rw [← NYE.out]; exact hlt))
            rw [← hi] at gx
            have hmem : i ∈ ys := by
              have hkl : k < ys.length := by rw [← NYE.out]; exact hlt
              rw [hi]; simp only [List.getD, List.getElem?_eq_getElem hkl, Option.getD_some]; exact List.getElem_mem hkl
            obtain ⟨i0, i1, i2⟩ := QY.out i hmem
            obtain ⟨z, rfl⟩ : ∃ z : Nat, i = z := ⟨i.toNat, by omega⟩
            have hz : z < n1 := by have := N1.out; omega
            rcases H1.out with h | ⟨b0, off0, rfl, hb0, hc0⟩
            · omega
            rcases H1.out with h | ⟨b1, off1, hab, hb1, hc1⟩
            · omega
            obtain ⟨p, hp⟩ : ∃ p, p = what.getD z lab0 := ⟨_, rfl⟩
            obtain ⟨q, hq⟩ : ∃ q, q = what.getD y lab0 := ⟨_, rfl⟩
            have hbw := HB2.out.trans (hbel.mono HB2.out.size)
            have p1 := (hbw.cell (p := ⟨b0, off0 + z * 2, none⟩) hb0).trans (hc0 z hz).1
            have p2 := (hbw.cell (p := ⟨b0, off0 + z * 2 + 1, none⟩) hb0).trans (hc0 z hz).2
            have q1 := (hbw.cell (p := ⟨b1, off1 + y * 2, none⟩) hb1).trans (hc1 y hy).1
            have q2 := (hbw.cell (p := ⟨b1, off1 + y * 2 + 1, none⟩) hb1).trans (hc1 y hy).2
            rw [← hp] at p1 p2
            rw [← hq] at q1 q2
            have hokp : okL p = true := by rw [hp]; exact HT.out z (by have := N1.out; omega)
            have hokq : okL q = true := by rw [hq]; exact HT.out y (by have := N1.out; omega)
            have hfl : flowsB q p = true := by
              rw [hq, hp]; simpa [at_] using i2
            obtain ⟨rfl, rfl⟩ : b1 = b0 ∧ off1 = off0 := by simp at hab; exact ⟨hab.1.symm, hab.2.symm⟩
            have l0 := World.block_lt_of_cell? wr _ p1
            have l1 := World.block_lt_of_cell? wr _ q1
            have hboth : ∀ w', Below wr.heap.size wr w' → (Below wr.heap.size wr w' ∧ w'.cell? ⟨b1, off1 + y * 2, none⟩ = some (.int .i64 q.l) ∧ w'.cell? ⟨b1, off1 + y * 2 + 1, none⟩ = some (.int .i64 q.k) ∧ w'.cell? ⟨b1, off1 + z * 2, none⟩ = some (.int .i64 p.l) ∧ w'.cell? ⟨b1, off1 + z * 2 + 1, none⟩ = some (.int .i64 p.k)) := fun w' hb => ⟨hb, (hb.cell (p := ⟨b1, off1 + y * 2, none⟩) l1).trans q1, (hb.cell (p := ⟨b1, off1 + y * 2 + 1, none⟩) l1).trans q2, (hb.cell (p := ⟨b1, off1 + z * 2, none⟩) l0).trans p1, (hb.cell (p := ⟨b1, off1 + z * 2 + 1, none⟩) l0).trans p2⟩
            have HBO := Lib.hid hboth
            have HOP := Lib.hid hokp
            have HOQ := Lib.hid hokq
            have HFL := Lib.hid hfl
            clear hp hq hokp hokq hboth hfl p1 p2 q1 q2 hc0 hc1 hcx hmem i0 i1 i2 hbw l0 l1 hi
            go_wp2_with fail
            go_region_held3 (fun w' => Below wr.heap.size wr w' ∧ w'.cell? ⟨b1, off1 + y * 2, none⟩ = some (.int .i64 q.l) ∧ w'.cell? ⟨b1, off1 + y * 2 + 1, none⟩ = some (.int .i64 q.k) ∧ w'.cell? ⟨b1, off1 + z * 2, none⟩ = some (.int .i64 p.l) ∧ w'.cell? ⟨b1, off1 + z * 2 + 1, none⟩ = some (.int .i64 p.k)) (first | assumption | exact HBO.out _ (Below.refl _ _).drew | go_keep)
              (first | (go_at_call 24; refine (flows_ok q p _ HOQ.out HOP.out).mono ?_; rintro e w5 ⟨rfl, hb5⟩; have hS := HBO.out _ ((‹Below wr.heap.size wr _ ∧ _›).1.trans (hb5.mono (‹Below wr.heap.size wr _ ∧ _›).1.size))))
            obtain ⟨hB5, _⟩ := HBO.out _ (‹Below wr.heap.size wr w5 ∧ _›).1
            have hbel5 := hbel.trans (hB5.mono hbel.size)
            rw [HFL.out]
            clear hbel hB5
            go_wp2
            go_roundw
            case rel => exact ⟨k + 1, by omega, by go_num, hbel5⟩
            case measure => simp [intOf]; omega
          · obtain rfl : k = ny := by omega
            clear hlt hk
            go_wp2_with fail
            refine (contains_any (y : Int) (HYA.out.keep hbel) (Nat.le_trans HY6.out (by decide))).mono ?_
            rintro e w9 ⟨rfl, rfl⟩
            have hct := HM.out
            go_wp2
            go_ret
            exact ⟨by simp [hct], HB2.out.trans (hbel.mono HB2.out.size)⟩

  · have hen' : (en != 0) = true := by simp [hen]
    clear hx hyy hen
    go_wp2
    go_ret
    exact ⟨rfl, HB2.out⟩
end Go.Proofs.Ytgdihccmkleimaa.LabelLaw
