/- The walk of snap.Pack. The walk of slices.Equal at bytes that are equal. The walk of snap.Unpack. -/
import Derived.Test.YtnmlapiekfkbaaaGreatDoorSnap
import Derived.Test.YtnmlapiekfkbaaaGreatDoorTpA
namespace Go.Proofs.YtnmlapiekfkbaaaGreatDoor
open Go.RowKit
set_option linter.unusedVariables false
set_option linter.unusedSimpArgs false
/-- the first c bytes of the nodes' sectors -/
def pkN (G : Nat → Nat) (c : Nat) : List Int := (List.range c).map (fun t => ((G (t / 16 * 48 + t % 16) : Nat) : Int))
/-- what k trees have -/
def pkS (G : Nat → Nat) (k : Nat) : List Int := pkN G 64 ++ (List.range (k * 32)).map (fun t => ((G (t / 32 * 48 + 16 + t % 32) : Nat) : Int))
theorem pkN_len (G c) : (pkN G c).length = c := by simp [pkN]
theorem pkS_len (G k) : (pkS G k).length = 64 + k * 32 := by simp [pkS, pkN]
theorem pkN_next (G : Nat → Nat) {k i : Nat} (hi : i < 16) : pkN G (k * 16 + i + 1) = pkN G (k * 16 + i) ++ [((G (k * 48 + i) : Nat) : Int)] := by
  unfold pkN
  rw [List.range_succ, List.map_append, List.map_cons, List.map_nil]
  congr 3
  have e1 : (k * 16 + i) / 16 = k := by omega
  have e2 : (k * 16 + i) % 16 = i := by omega
  rw [e1, e2]
def setL (G : Nat → Nat) (k : Nat) : List Int := (List.range 32).map (fun j => ((G (k * 48 + 16 + j) : Nat) : Int))
theorem setL_len (G k) : (setL G k).length = 32 := by simp [setL]
theorem pkS_next (G : Nat → Nat) (k : Nat) : pkS G (k + 1) = pkS G k ++ setL G k := by
  unfold pkS setL
  rw [List.append_assoc]
  congr 1
  apply List.ext_getElem
  · simp; omega
  · intro i h1 h2
    simp only [List.length_map, List.length_range] at h1
    rw [List.getElem_map, List.getElem_range]
    by_cases hi : i < k * 32
    · rw [List.getElem_append_left (by simpa using hi), List.getElem_map, List.getElem_range]
    · rw [List.getElem_append_right (by simpa using hi), List.getElem_map, List.getElem_range]
      simp only [List.length_map, List.length_range]
      have e1 : i / 32 = k := by omega
      have e2 : i % 32 = i - k * 32 := by omega
      rw [e1, e2]
theorem set_cells {w : World} {b : Nat} {A : Array Value} {G : Nat → Nat} (hr : Row w b 165 A) (hA : A = forA G) {k : Nat} (hk : k < 4) : ∀ j u, ((setL G k).map u8V)[j]? = some u → w.cell? ((⟨b, k * 48 + 16, none⟩ : Addr).add j) = some u := by
  refine cells_u8 fun i hi => ?_
  rw [setL_len] at hi
  rw [hr.cell, hA, forA_get _ (by omega), fV_hi hi]
  simp [setL, List.getD, hi]
attribute [local go_sem ↓] ld_set st_set ld_for st_for ld_tre ld_nod ix_nod appB_eq
set_option maxRecDepth 100000 in
set_option maxHeartbeats 1000000 in
theorem pack_is (w : World) {G : Nat → Nat} (hG : FR G) : Calls Tryz.prog 76 #[.agg (forA G)] w fun e w' => ∃ v, e = .returned (.tuple #[v, .int .i64 0]) ∧ OB w.heap.size w' v (pkS G 4) ∧ Below w.heap.size w w' := by
  have HG := Lib.hid hG
  have HR0 : Hid (Row (w.alloc (.cells (forA G) 165)) w.heap.size 165 (forA G)) := Lib.hid (row_new w _ _)
  have HB := Lib.hid (Go.Joins.below_alloc1 w (.cells (forA G) 165))
  have HA := Lib.hid (forA_size G)
  have HRI := Lib.hid (right_is (w.alloc (.cells (forA G) 165)) hG)
  have HZ : Hid ((w.alloc (.cells (forA G) 165)).heap.size = w.heap.size + 1) := Lib.hid (by simp)
  clear hG
  obtain ⟨A, hA⟩ : ∃ A, A = forA G := ⟨_, rfl⟩
  rw [← hA] at HR0 HB HA HRI HZ ⊢
  have HAE := Lib.hid hA
  clear hA
  have l0 : (ldR 165 (.pointer (some ⟨w.heap.size, 0, none⟩))).run Tryz.prog (w.alloc (.cells A 165)) = .ok (.agg A) (w.alloc (.cells A 165)) := HR0.out.ld0 Tryz.underlying165 rfl (by rw [HA.out]; kernel_rfl)
  go_enter Tryz.func76, Tryz.ntmps76
  go_upto_region 1 with fail
  generalize w.alloc (.cells A 165) = w0 at *
  go_upto_region 2 with (go_at_call 152; refine HRI.out.mono ?_; rintro e1 w1 ⟨rfl, hb1⟩)
  have HR1 := Lib.hid (HR0.out.keep hb1)
  have HB1 := Lib.hid (HB.out.trans (hb1.mono HB.out.size))
  have HZ1 : Hid (w.heap.size + 1 ≤ w1.heap.size) := Lib.hid (by rw [← HZ.out]; exact hb1.size)
  clear HRI HR0 HB HZ l0 hb1
  go_wp2_with fail
  go_loopw [5, 15] (fun ov kv wr => ∃ k v, k ≤ 4 ∧ v = ov ∧ kv = .int .i64 (k : Nat) ∧ Hid (Below (w.heap.size + 1) w1 wr) ∧ Hid (OB (w.heap.size + 1) wr v (pkN G (k * 16)))) (fun ov kv _ => 4 - (intOf kv).toNat)
  case atStart => exact ⟨0, _, by omega, rfl, rfl, Lib.hid (Below.refl _ _), Lib.hid (OB.nil _ _)⟩
  case round =>
    obtain ⟨k, v, hk0, rfl, rfl, HB, HO⟩ := hrel
    by_cases hk : k < 4
    · have i0 : (0 : Int) ≤ k := by omega
      have i1 : (k : Int) < 4 := by omega
      have HR := Lib.hid (HR1.out.keepB HB.out (Nat.lt_succ_self _))
      have l1 : (ldR 62 (.pointer (some ⟨w.heap.size, k * 48, none⟩))).run Tryz.prog wr = .ok (.agg (nodA (fun j => G (k * 48 + j)))) wr := by
        rw [HR.out.ld (o := k * 48) (n := 16) (by rw [HA.out]; omega) Tryz.underlying62 rfl (by kernel_rfl), HAE.out, forA_nod G hk]
      have HIX := Lib.hid (show ∀ (w : World) (i : Nat), i < 16 → (ixR 62 (.agg (nodA (fun j => G (k * 48 + j)))) (.int .i64 i)).run Tryz.prog w = .ok (.int .i64 (G (k * 48 + i))) w from fun w i hi => ix_is w (fun j => G (k * 48 + j)) hi)
      generalize nodA (fun j => G (k * 48 + j)) = N at *
      go_wp2_with fail
      have HO0 : Hid (OB (w.heap.size + 1) wr v (pkN G (k * 16 + 0))) := HO
      clear l1 HR HO
      go_loopw [5, 22] (fun ov iv wr => ∃ i v, i ≤ 16 ∧ v = ov ∧ iv = .int .i64 (i : Nat) ∧ Hid (Below (w.heap.size + 1) w1 wr) ∧ Hid (OB (w.heap.size + 1) wr v (pkN G (k * 16 + i)))) (fun ov iv _ => 16 - (intOf iv).toNat)
      case atStart => exact ⟨0, _, by omega, rfl, rfl, HB, HO0⟩
      case round =>
        clear HO0 HB
        obtain ⟨i, v, hi0, rfl, rfl, HB, HO⟩ := hrel
        by_cases hi : i < 16
        · have j0 : (0 : Int) ≤ i := by omega
          have j1 : (i : Int) < 16 := by omega
          have hx := HIX.out wr i hi
          have hb := HG.out.lt k i hk hi
          have HN := Lib.hid (pkN_next G (k := k) hi)
          have HSZ : Hid (w.heap.size + 1 ≤ wr.heap.size) := Lib.hid (Nat.le_trans HZ1.out HB.out.size)
          obtain ⟨p, c', w3, hap, ho3, -, hb3⟩ := HO.out.push HSZ.out (G (k * 48 + i)) (by rw [pkN_len]; omega)
          rw [pkN_len] at hap ho3
          rw [← HN.out] at ho3
          have HO3 := Lib.hid ho3
          have HB3 := Lib.hid (HB.out.trans hb3)
          clear ho3 hb3
          generalize G (k * 48 + i) = g at *
          have y1 : IntKind.u8.wrap (g : Int) = g := by rw [IntKind.wrap_u8]; omega
          have y2 : (g : Int) % 256 = g := by omega
          clear hb
          go_wp2_with fail
          go_roundw
          case rel => exact ⟨i + 1, _, by omega, rfl, by go_num, HB3, HO3⟩
          case measure => simp [intOf]; omega
        · obtain rfl : i = 16 := by omega
          have HO4 : Hid (OB (w.heap.size + 1) wr v (pkN G ((k + 1) * 16))) := by
            have e : (k + 1) * 16 = k * 16 + 16 := by omega
            rw [e]; exact HO
          go_wp2_with fail
          go_roundw
          case rel => exact ⟨k + 1, _, by omega, rfl, by go_num, HB, HO4⟩
          case measure => simp [intOf]; omega
    · obtain rfl : k = 4 := by omega
      have HO0 : Hid (OB (w.heap.size + 1) wr v (pkS G 0)) := by
        have e : pkS G 0 = pkN G (4 * 16) := by simp [pkS]
        rw [e]; exact HO
      clear HO
      go_wp2_with fail
      go_loopw [5, 32] (fun ov kv wr => ∃ k v, k ≤ 4 ∧ v = ov ∧ kv = .int .i64 (k : Nat) ∧ Hid (Below (w.heap.size + 1) w1 wr) ∧ Hid (OB (w.heap.size + 1) wr v (pkS G k))) (fun ov kv _ => 4 - (intOf kv).toNat)
      case atStart => exact ⟨0, _, by omega, rfl, rfl, HB, HO0⟩
      case round =>
        clear HO0 HB
        obtain ⟨k, v, hk0, rfl, rfl, HB, HO⟩ := hrel
        by_cases hk : k < 4
        · have i0 : (0 : Int) ≤ k := by omega
          have i1 : (k : Int) < 4 := by omega
          have HR := Lib.hid (HR1.out.keepB HB.out (Nat.lt_succ_self _))
          have HSZ : Hid (w.heap.size + 1 ≤ wr.heap.size) := Lib.hid (Nat.le_trans HZ1.out HB.out.size)
          obtain ⟨p, c', w3, hap, ho3, -, hb3⟩ := HO.out.app HSZ.out (c := 32) (set_cells HR.out HAE.out hk) (by rw [pkS_len, setL_len]; omega)
          rw [setL_len] at hap ho3
          rw [← pkS_next] at ho3
          have HO3 := Lib.hid ho3
          have HB3 := Lib.hid (HB.out.trans hb3)
          clear ho3 hb3
          go_wp2_with fail
          go_roundw
          case rel => exact ⟨k + 1, _, by omega, rfl, by go_num, HB3, HO3⟩
          case measure => simp [intOf]; omega
        · obtain rfl : k = 4 := by omega
          go_wp2_with fail
          go_ret2
          exact ⟨_, rfl, HO.out.base (Nat.le_succ _), HB1.out.trans (HB.out.mono (Nat.le_succ _))⟩
end Go.Proofs.YtnmlapiekfkbaaaGreatDoor
namespace Go.Proofs.YtnmlapiekfkbaaaGreatDoor
open Go.RowKit
set_option linter.unusedVariables false
set_option linter.unusedSimpArgs false
theorem At.cellB {w : World} {a : Option Addr} {n cap : Nat} {l : List Int} (h : At (Value.int .u8) 0 w (.slice a n cap) l) : l = [] ∨ ∃ b off, a = some ⟨b, off, none⟩ ∧ b < w.heap.size ∧ ∀ i, i < l.length → w.cell? ⟨b, off + i, none⟩ = some (.int .u8 (l.getD i 0)) := by
  obtain ⟨a', cap', e, _, _, h⟩ := h
  injection e with e1 e2 e3
  rcases h with h | ⟨b, off, h1, h2, h3⟩
  · exact .inl h
  · exact .inr ⟨b, off, by rw [e1, h1], h2, h3⟩
theorem own_cells {w : World} {B n c : Nat} {p : Option Addr} {l : List Int} (ho : w.ownsRow B 5 1 (.slice p n c) n (l.map u8V)) (hl : l.length = n) (h0 : 0 < n) : ∃ b o, p = some ⟨b, o, none⟩ ∧ ∀ j u, (l.map u8V)[j]? = some u → w.cell? ((⟨b, o, none⟩ : Addr).add j) = some u := by
  subst hl
  rcases At.cellB (at_of_owned (f := Value.int .u8) (d := 0) (xs := l) ho) with e | ⟨b, o, e, -, hc⟩
  · rw [e] at h0; simp at h0
  · exact ⟨b, o, e, cells_u8 hc⟩
theorem OB.app' {B n : Nat} {w : World} {v : Value} {l : List Int} (h : OB B w v l) (hB : B ≤ w.heap.size) {a : Addr} {c : Nat} {news : List Int} (hl : news.length = n) (hn : ∀ j u, (news.map u8V)[j]? = some u → w.cell? (a.add j) = some u) (h64 : l.length + n ≤ 1000000) :
    ∃ p c' w', (appB #[v, .slice (some a) n c]).run Tryz.prog w = .ok (.slice p (l.length + n) c') w' ∧ OB B w' (.slice p (l.length + n) c') (l ++ news) ∧ Below B w w' := by
  subst hl
  obtain ⟨p, c', w', h1, h2, -, h3⟩ := h.app hB (c := c) hn h64
  exact ⟨p, c', w', h1, h2, h3⟩
set_option maxRecDepth 100000 in
set_option maxHeartbeats 400000 in
theorem equalB_is {w : World} {v v' : Value} {l : List Int} (h64 : l.length ≤ 1000000) (hv : At (Value.int .u8) 0 w v l) (hv' : At (Value.int .u8) 0 w v' l) : Calls Tryz.prog 81 #[v, v'] w fun e w' => e = .returned (.bool true) ∧ Below w.heap.size w w' := by
  have HV := Lib.hid hv
  have HV' := Lib.hid hv'
  obtain ⟨a, cap, rfl, hl, hcm, -⟩ := hv
  obtain ⟨a', cap', rfl, hl', hcm', -⟩ := hv'
  have HL := Lib.hid h64
  obtain ⟨n, hn⟩ : ∃ n, n = l.length := ⟨_, rfl⟩
  rw [← hn] at h64 hl hl' HV HV' ⊢
  have HN := Lib.hid hn
  have i0 : (n : Int) ≤ 1000000 := by omega
  clear hn h64 hcm hcm' hl hl' HL
  go_enter Tryz.func81, Tryz.ntmps81
  go_wp2_with fail
  go_loopw [13] (fun iv wr => ∃ i, i ≤ n ∧ iv = .int .i64 (i : Nat) ∧ Hid (Below w.heap.size w wr)) (fun iv _ => n - (intOf iv).toNat)
  case atStart => exact ⟨0, Nat.zero_le _, rfl, Lib.hid (Below.refl _ _)⟩
  case round =>
    obtain ⟨i, hi0, rfl, HB⟩ := hrel
    by_cases hi : i < n
    · have j0 : (0 : Int) ≤ i := by omega
      have j1 : (i : Int) < n := by omega
      have HB1 := Lib.hid HB.out.drew
      rcases At.cellB (HV.out.keep HB1.out) with e | ⟨b, o, rfl, hlt, hc⟩
      · have := HN.out; rw [e] at this; simp at this; omega
      rcases At.cellB (HV'.out.keep HB1.out) with e | ⟨b', o', rfl, hlt', hc'⟩
      · have := HN.out; rw [e] at this; simp at this; omega
      have c1 := hc i (by rw [← HN.out]; exact hi)
      have c2 := hc' i (by rw [← HN.out]; exact hi)
      generalize l.getD i 0 = x at *
      clear hc hc' hlt hlt' HB
      go_upto_region 6 with fail
      go_region
      go_wp2_with fail
      go_roundw
      case rel => exact ⟨i + 1, by omega, by go_num, HB1⟩
      case measure => simp [intOf]; omega
    · obtain rfl : i = n := by omega
      go_wp2_with fail
      go_ret
      exact ⟨rfl, HB.out⟩
end Go.Proofs.YtnmlapiekfkbaaaGreatDoor
namespace Go.Proofs.YtnmlapiekfkbaaaGreatDoor
open Go.RowKit
set_option linter.unusedVariables false
set_option linter.unusedSimpArgs false
/-- what lies there when k trees are told, and i sectors of the next -/
def stU (G : Nat → Nat) (k i : Nat) : Nat → Nat := fun j => if j / 48 < k ∨ (j / 48 = k ∧ j % 48 < i) then G j else 0
theorem stU_zero (G) : stU G 0 0 = fun _ => 0 := by
  funext j
  unfold stU
  rw [if_neg (by omega)]
theorem stU_next (G : Nat → Nat) {k i : Nat} (hi : i < 16) : up (stU G k i) (k * 48 + i) (G (k * 48 + i)) = stU G k (i + 1) := by
  funext j
  unfold up stU
  by_cases e : j = k * 48 + i
  · subst e; rw [if_pos rfl, if_pos (by omega)]
  · rw [if_neg e]
    by_cases h : j / 48 < k ∨ (j / 48 = k ∧ j % 48 < i)
    · rw [if_pos h, if_pos (by omega)]
    · rw [if_neg h, if_neg (by omega)]
theorem stU_tree (G : Nat → Nat) {k : Nat} : ups (stU G k 16) (k * 48 + 16) 32 (fun j => G (k * 48 + 16 + j)) = stU G (k + 1) 0 := by
  funext j
  unfold ups stU
  by_cases h : k * 48 + 16 ≤ j ∧ j < k * 48 + 16 + 32
  · rw [if_pos h, if_pos (by omega)]
    show G (k * 48 + 16 + (j - (k * 48 + 16))) = G j
    congr 1
    omega
  · rw [if_neg h]
    by_cases h2 : j / 48 < k ∨ (j / 48 = k ∧ j % 48 < 16)
    · rw [if_pos h2, if_pos (by omega)]
    · rw [if_neg h2, if_neg (by omega)]
theorem stU_all (G : Nat → Nat) : forA (stU G 4 0) = forA G := forA_ext fun j hj => by unfold stU; rw [if_pos (by omega)]
theorem pkS_nod (G : Nat → Nat) {k i : Nat} (hk : k < 4) (hi : i < 16) : (pkS G 4).getD (k * 16 + i) 0 = ((G (k * 48 + i) : Nat) : Int) := by
  have h1 : k * 16 + i < 64 := by omega
  have e1 : (k * 16 + i) / 16 = k := by omega
  have e2 : (k * 16 + i) % 16 = i := by omega
  unfold pkS pkN
  rw [List.getD_eq_getElem?_getD, List.getElem?_append_left (by simpa using h1), List.getElem?_map, List.getElem?_range h1]
  simp only [Option.map_some, Option.getD_some, e1, e2]
theorem pkS_set (G : Nat → Nat) {k j : Nat} (hk : k < 4) (hj : j < 32) : (pkS G 4).getD (64 + k * 32 + j) 0 = (setL G k).getD j 0 := by
  have h1 : k * 32 + j < 4 * 32 := by omega
  have e1 : (k * 32 + j) / 32 = k := by omega
  have e2 : (k * 32 + j) % 32 = j := by omega
  unfold pkS pkN setL
  rw [List.getD_eq_getElem?_getD, List.getElem?_append_right (by simp; omega), List.getElem?_map]
  simp only [List.length_map, List.length_range]
  rw [show 64 + k * 32 + j - 64 = k * 32 + j by omega, List.getElem?_range h1, List.getD_eq_getElem?_getD, List.getElem?_map, List.getElem?_range hj]
  simp only [Option.map_some, Option.getD_some, e1, e2]
theorem setL_setA (G : Nat → Nat) (k : Nat) : (setL G k).map u8V = (setA (fun j => G (k * 48 + 16 + j))).toList := by
  apply List.ext_getElem?
  intro i
  by_cases hi : i < 32
  · rw [Array.getElem?_toList (xs := setA _), setA_get _ hi]
    simp [setL, hi]
  · rw [Array.getElem?_toList (xs := setA _), Array.getElem?_eq_none (by rw [setA_size]; omega), List.getElem?_eq_none (by simp [setL_len]; omega)]
/-- a set's bytes are copied into a forest -/
theorem run_copyF {w : World} {g k sL sC sb so : Nat} {G H : Nat → Nat} (hk : k < 4) (hg : Row w g 165 (forA G)) (hs : ∀ i, i < 32 → w.cell? ⟨sb, so + i, none⟩ = some (.int .u8 ((setL H k).getD i 0))) (hL : 32 ≤ sL) :
    (copyB #[.slice (some ⟨g, k * 48 + 16, none⟩) 32 32, .slice (some ⟨sb, so, none⟩) sL sC]).run Tryz.prog w = .ok (.int .i64 32) (w.setRow g (forA (ups G (k * 48 + 16) 32 (fun j => H (k * 48 + 16 + j))))) := by
  have hl : ((setL H k).map u8V).length = 32 := by simp [setL_len]
  have h := run_copy_row (P := Tryz.prog) w 29 29 3 5 g (k * 48 + 16) 32 32 ⟨sb, so, none⟩ sL sC (forA G) 165 ((setL H k).map u8V) Tryz.underlying29 (by kernel_rfl) hg (by rw [hl]; exact (Nat.min_eq_right hL).symm) (cells_u8 (by rw [setL_len]; exact hs)) (by rw [hl, forA_size]; omega) (u8V_one _)
  have e := forA_put G (fun j => H (k * 48 + 16 + j)) hk
  unfold putA at e
  rw [← setL_setA, hl] at e
  rw [hl, e] at h
  rw [← copyB_eq, h]
  simp [goInt]
attribute [local go_sem ↓] ld_set st_set ld_for st_for ld_tre ld_nod ix_nod copyB_eq
set_option maxRecDepth 100000 in
set_option maxHeartbeats 1000000 in
theorem sunpack_is {w : World} {v : Value} {G : Nat → Nat} (hG : FR G) (hG8 : ∀ j, G j < 256) (hv : At (Value.int .u8) 0 w v (pkS G 4)) : Calls Tryz.prog 156 #[v] w fun e w' => e = .returned (.tuple #[.agg (forA G), .int .i64 0]) ∧ Below w.heap.size w w' := by
  have HG := Lib.hid hG
  have HG8 := Lib.hid hG8
  have HV := Lib.hid hv
  obtain ⟨a, cap, rfl, hl, hcm, -⟩ := hv
  have hlen : (pkS G 4).length = 192 := by rw [pkS_len]
  rw [hlen] at hl HV ⊢
  rcases At.cellB HV.out with e | ⟨b, o, rfl, hlt, hc⟩
  · rw [e] at hlen; cases hlen
  have HC := Lib.hid hc
  have HLT := Lib.hid hlt
  have HLEN := Lib.hid hlen
  clear hc hlt hG hG8 hlen hcm
  have hz : Tryz.zeroCells165 = forA (fun _ => 0) := by kernel_rfl
  go_enter Tryz.func156, Tryz.ntmps156
  go_upto_region 4 with fail
  have HR0 : Hid (Row ((w.alloc (.cells (forA (fun _ => 0)) 165)).alloc (.cells (forA (fun _ => 0)) 165)) w.heap.size 165 (forA (fun _ => 0))) := Lib.hid ((row_new w _ _).alloc _)
  have HR1 : Hid (Row ((w.alloc (.cells (forA (fun _ => 0)) 165)).alloc (.cells (forA (fun _ => 0)) 165)) (w.heap.size + 1) 165 (forA (stU G 0 0))) := Lib.hid (by
    rw [stU_zero]
    have := row_new (w.alloc (.cells (forA (fun _ => 0)) 165)) 165 (forA (fun _ => 0))
    simpa using this)
  have HB1 : Hid (Below w.heap.size w ((w.alloc (.cells (forA (fun _ => 0)) 165)).alloc (.cells (forA (fun _ => 0)) 165))) := Lib.hid (((Below.refl _ _).alloc (Nat.le_refl _) _).alloc (by simp) _)
  generalize (w.alloc (.cells (forA (fun _ => 0)) 165)).alloc (.cells (forA (fun _ => 0)) 165) = w1 at *
  clear hz
  go_wp2_with fail
  go_loopw [13] (fun kv wr => ∃ k, k ≤ 4 ∧ kv = .int .i64 (k : Nat) ∧ Hid (Below w.heap.size w wr) ∧ Hid (Row wr w.heap.size 165 (forA (fun _ => 0))) ∧ Hid (Row wr (w.heap.size + 1) 165 (forA (stU G k 0)))) (fun kv _ => 4 - (intOf kv).toNat)
  case atStart => exact ⟨0, by omega, rfl, HB1, HR0, HR1⟩
  case round =>
    clear HB1 HR0 HR1
    obtain ⟨k, hk0, rfl, HB, HRA, HRB⟩ := hrel
    by_cases hk : k < 4
    · have i0 : (0 : Int) ≤ k := by omega
      have i1 : (k : Int) < 4 := by omega
      go_wp2_with fail
      go_loopw [16] (fun iv wr => ∃ i, i ≤ 16 ∧ iv = .int .i64 (i : Nat) ∧ Hid (Below w.heap.size w wr) ∧ Hid (Row wr w.heap.size 165 (forA (fun _ => 0))) ∧ Hid (Row wr (w.heap.size + 1) 165 (forA (stU G k i)))) (fun iv _ => 16 - (intOf iv).toNat)
      case atStart => exact ⟨0, by omega, rfl, HB, HRA, HRB⟩
      case round =>
        clear HB HRA HRB
        obtain ⟨i, hi0, rfl, HB, HRA, HRB⟩ := hrel
        by_cases hi : i < 16
        · have j0 : (0 : Int) ≤ i := by omega
          have j1 : (i : Int) < 16 := by omega
          have c1 : wr.cell? ⟨b, o + (16 * k + i), none⟩ = some (.int .u8 (G (k * 48 + i))) := by
            rw [show 16 * k = k * 16 by omega, HB.out.cell (p := ⟨b, o + (k * 16 + i), none⟩) HLT.out, HC.out _ (by rw [HLEN.out]; omega), pkS_nod G hk hi]
          have hcB := HRB.out.cell (k * 48 + i)
          rw [forA_get _ (by omega), fV_lo hi] at hcB
          have hfB := HRB.out.fz (k * 48 + i)
          have HRC : Hid (Row (wr.setCell ⟨w.heap.size + 1, k * 48 + i, none⟩ (.int .i64 (G (k * 48 + i)))) (w.heap.size + 1) 165 (forA (stU G k (i + 1)))) := Lib.hid (by
            rw [HRB.out.setCell]
            have := forA_up (stU G k i) (j := k * 48 + i) (x := G (k * 48 + i)) (by omega)
            rw [fV_lo hi, stU_next G hi] at this
            rw [this]
            exact HRB.out.setRow _)
          have HRAC : Hid (Row (wr.setCell ⟨w.heap.size + 1, k * 48 + i, none⟩ (.int .i64 (G (k * 48 + i)))) w.heap.size 165 (forA (fun _ => 0))) := Lib.hid (HRA.out.upd (Upd.set wr _ (S := fun k => k = w.heap.size + 1) rfl) (by omega))
          have HBC := Lib.hid (HB.out.setCell (p := ⟨w.heap.size + 1, k * 48 + i, none⟩) (Nat.le_succ _) (.int .i64 (G (k * 48 + i))))
          have hg := HG8.out (k * 48 + i)
          generalize G (k * 48 + i) = g at *
          have y1 : IntKind.i64.wrap (g : Int) = g := IntWalk.i64_in _ (by omega)
          have y2 : IntKind.i64.wrap ((k : Int) * 16 + i) = (k : Int) * 16 + i := IntWalk.i64_in _ (by omega)
          clear hg
          go_upto_region 10 with fail
          go_region
          go_wp2_with fail
          go_roundw
          case rel => exact ⟨i + 1, by omega, by go_num, Lib.hid HBC.out.drew, HRAC, HRC⟩
          case measure => simp [intOf]; omega
        · obtain rfl : i = 16 := by omega
          have hsrc : ∀ i, i < 32 → wr.drew.cell? ⟨b, o + (64 + 32 * k) + i, none⟩ = some (.int .u8 ((setL G k).getD i 0)) := fun i hi => by
            have := HB.out.drew.cell (p := ⟨b, o + (64 + 32 * k) + i, none⟩) HLT.out
            rw [this, show o + (64 + 32 * k) + i = o + (64 + k * 32 + i) by omega, HC.out _ (by rw [HLEN.out]; omega), pkS_set G hk hi]
          have hcp := run_copyF (sL := 192 - (64 + 32 * k)) (sC := cap - (64 + 32 * k)) (G := stU G k 16) hk HRB.out.drew hsrc (by omega)
          rw [stU_tree] at hcp
          have HRC := Lib.hid (HRB.out.drew.setRow (forA (stU G (k + 1) 0)))
          have HRAC := Lib.hid (HRA.out.drew.upd (Upd.setRow wr.drew (forA (stU G (k + 1) 0)) (S := fun k => k = w.heap.size + 1) rfl) (by omega))
          have HBC := Lib.hid (HB.out.drew.trans (Upd.toBelow (Upd.setRow wr.drew (forA (stU G (k + 1) 0)) (S := fun k => k = w.heap.size + 1) rfl) (by exact HB.out.size) (by omega)))
          generalize wr.drew.setRow (w.heap.size + 1) (forA (stU G (k + 1) 0)) = w9 at *
          have y2 : IntKind.i64.wrap (32 * (k : Int)) = 32 * (k : Int) := IntWalk.i64_in _ (by omega)
          have y3 : IntKind.i64.wrap (64 + 32 * (k : Int)) = 64 + 32 * (k : Int) := IntWalk.i64_in _ (by omega)
          have y4 : ¬ cap = 64 + 32 * k := by omega
          clear hsrc
          go_upto_region 12 with fail
          go_region
          go_wp2_with fail
          go_roundw
          case rel => exact ⟨k + 1, by omega, by go_num, HBC, HRAC, HRC⟩
          case measure => simp [intOf]; omega
    · obtain rfl : k = 4 := by omega
      have HA := Lib.hid (forA_size G)
      have HO1 := Lib.hid (forA_one G)
      have hrb := HRB.out
      rw [stU_all] at hrb
      have HP := Lib.hid (pack_is wr HG.out)
      have HPL := Lib.hid (show (pkS G 4).length ≤ 1000000 by rw [pkS_len]; decide)
      have HZ := Lib.hid (forA_size (fun _ => 0))
      generalize forA (fun _ => 0) = Z at *
      generalize hAE : forA G = A at *
      have HAE := Lib.hid hAE
      clear hAE
      have HRB1 := Lib.hid hrb
      have l1 := hrb.ld0 Tryz.underlying165 rfl (by rw [HA.out]; kernel_rfl)
      clear HRB hrb
      go_upto_region 15 with (go_at_call 76; refine HP.out.mono ?_; rintro e5 w5 ⟨v5, rfl, ho5, hb5⟩)
      have HB5 := Lib.hid (HB.out.trans (hb5.mono HB.out.size))
      have HR5 := Lib.hid (HRB1.out.keep hb5)
      have HR05 := Lib.hid (HRA.out.keep hb5)
      have HV5 := Lib.hid ((HV.out.keep HB.out).keep hb5)
      have HEQ := Lib.hid (equalB_is HPL.out ho5.at HV5.out)
      clear HP ho5 hb5 l1 HB HRB1 HRA
      go_upto_region 17 with (go_at_call 81; refine HEQ.out.mono ?_; rintro e6 w6 ⟨rfl, hb6⟩)
      have HB6 := Lib.hid (HB5.out.trans (hb6.mono HB5.out.size))
      have HR6 := HR5.out.keep hb6
      have HR06 := HR05.out.keep hb6
      have l6 := HR6.ld0 Tryz.underlying165 rfl (by rw [HA.out]; kernel_rfl)
      have s6 := HR06.st0 (cs := A) (by rw [HA.out, HZ.out]) (by rw [HA.out]; kernel_rfl) HO1.out
      have l7 := (HR06.setRow A).ldV Tryz.underlying165 rfl (by rw [HA.out]; kernel_rfl)
      have HB7 := Lib.hid (HB6.out.trans (Upd.toBelow (Upd.setRow w6 A (b := w.heap.size) (S := fun k => k = w.heap.size) rfl) HB6.out.size (by omega)))
      generalize w6.setRow w.heap.size A = w7 at *
      clear HR6 HR06 hb6 HEQ HB5 HR5 HR05
      go_wp2_with fail
      exact bodyPost_ret (v := .tuple #[.agg A, .int .i64 0]) (by rw [results_cell_tmp rfl]; simp [asAddr, Result.andThen, l7]) rfl ⟨by rw [HAE.out], HB7.out⟩
end Go.Proofs.YtnmlapiekfkbaaaGreatDoor
