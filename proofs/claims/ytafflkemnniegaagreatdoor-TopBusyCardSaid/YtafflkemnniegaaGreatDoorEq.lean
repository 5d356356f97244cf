/- The walks of snap: There, Right. The walk of snap.Pack. The walk of slices.Equal at bytes that are equal. -/
import Derived.Test.YtafflkemnniegaaGreatDoorForest
namespace Go.Proofs.YtafflkemnniegaaGreatDoor
open Go.RowKit
set_option linter.unusedVariables false
set_option linter.unusedSimpArgs false
theorem ld_for (v : Value) : Instr.loadAt 166 v = ldR 166 v := rfl
theorem st_for (p v : Value) : Instr.storeAt 166 p v = stR 166 p v := rfl
theorem ld_tre (v : Value) : Instr.loadAt 164 v = ldR 164 v := rfl
theorem ld_nod (v : Value) : Instr.loadAt 64 v = ldR 64 v := rfl
theorem ix_nod (v i : Value) : Instr.index 64 v i = ixR 64 v i := rfl
attribute [local go_sem ↓] ld_set st_set ld_for st_for ld_tre ld_nod ix_nod
set_option maxRecDepth 100000 in
set_option maxHeartbeats 400000 in
theorem there_is (w : World) {G : Nat → Nat} {k : Nat} (hk : k < 4) {b : Bool} (hb : b = !(G (k * 48) == 0)) : Calls Tryz.prog 156 #[.agg (forA G), .int .i64 k] w fun e w' => e = .returned (.bool b) ∧ Below w.heap.size w w' := by
  have hsz := forA_size G
  have i0 : (0 : Int) ≤ k := by omega
  have i1 : (k : Int) < 4 := by omega
  have i2 : (k : Int) * 48 < 192 := by omega
  have R1 : Row (w.alloc (.cells (forA G) 166)) w.heap.size 166 (forA G) := row_new w _ _
  have HB := Lib.hid (Go.Joins.below_alloc1 w (.cells (forA G) 166))
  have hc : (w.alloc (.cells (forA G) 166)).cell? ⟨w.heap.size, k * 48, none⟩ = some (.int .i64 (G (k * 48))) := by
    rw [R1.cell, forA_get _ (by omega)]
    have := fV_lo (k := k) (i := 0) (by decide) (G (k * 48))
    simpa using this
  have hA : (forA G)[k * 48]? = some (.int .i64 (G (k * 48))) := by rw [← R1.cell]; exact hc
  generalize forA G = A at *
  generalize G (k * 48) = g at *
  have hg : ((g : Int) != 0) = b := by
    rw [hb]
    have e : (g : Int) = 0 ↔ g = 0 := by omega
    by_cases h0 : g = 0
    · subst h0; rfl
    · rw [bne_iff_ne.2 (fun q => h0 (e.1 q)), beq_eq_false_iff_ne.2 h0]; rfl
  clear hb R1 hk
  go_enter Tryz.func156, Tryz.ntmps156
  go_wp2_with fail
  go_ret
  exact ⟨rfl, HB.out⟩
theorem ix0_is (w : World) (h : Nat → Nat) : (ixR 64 (.agg (nodA h)) (.int .i64 0)).run Tryz.prog w = .ok (.int .i64 (h 0)) w := by kernel_rfl
theorem ix1_is (w : World) (h : Nat → Nat) : (ixR 64 (.agg (nodA h)) (.int .i64 1)).run Tryz.prog w = .ok (.int .i64 (h 1)) w := by kernel_rfl
theorem ix2_is (w : World) (h : Nat → Nat) : (ixR 64 (.agg (nodA h)) (.int .i64 2)).run Tryz.prog w = .ok (.int .i64 (h 2)) w := by kernel_rfl
theorem ix3_is (w : World) (h : Nat → Nat) : (ixR 64 (.agg (nodA h)) (.int .i64 3)).run Tryz.prog w = .ok (.int .i64 (h 3)) w := by kernel_rfl
theorem ix4_is (w : World) (h : Nat → Nat) : (ixR 64 (.agg (nodA h)) (.int .i64 4)).run Tryz.prog w = .ok (.int .i64 (h 4)) w := by kernel_rfl
theorem ix5_is (w : World) (h : Nat → Nat) : (ixR 64 (.agg (nodA h)) (.int .i64 5)).run Tryz.prog w = .ok (.int .i64 (h 5)) w := by kernel_rfl
theorem ix6_is (w : World) (h : Nat → Nat) : (ixR 64 (.agg (nodA h)) (.int .i64 6)).run Tryz.prog w = .ok (.int .i64 (h 6)) w := by kernel_rfl
theorem ix7_is (w : World) (h : Nat → Nat) : (ixR 64 (.agg (nodA h)) (.int .i64 7)).run Tryz.prog w = .ok (.int .i64 (h 7)) w := by kernel_rfl
theorem ix8_is (w : World) (h : Nat → Nat) : (ixR 64 (.agg (nodA h)) (.int .i64 8)).run Tryz.prog w = .ok (.int .i64 (h 8)) w := by kernel_rfl
theorem ix9_is (w : World) (h : Nat → Nat) : (ixR 64 (.agg (nodA h)) (.int .i64 9)).run Tryz.prog w = .ok (.int .i64 (h 9)) w := by kernel_rfl
theorem ix10_is (w : World) (h : Nat → Nat) : (ixR 64 (.agg (nodA h)) (.int .i64 10)).run Tryz.prog w = .ok (.int .i64 (h 10)) w := by kernel_rfl
theorem ix11_is (w : World) (h : Nat → Nat) : (ixR 64 (.agg (nodA h)) (.int .i64 11)).run Tryz.prog w = .ok (.int .i64 (h 11)) w := by kernel_rfl
theorem ix12_is (w : World) (h : Nat → Nat) : (ixR 64 (.agg (nodA h)) (.int .i64 12)).run Tryz.prog w = .ok (.int .i64 (h 12)) w := by kernel_rfl
theorem ix13_is (w : World) (h : Nat → Nat) : (ixR 64 (.agg (nodA h)) (.int .i64 13)).run Tryz.prog w = .ok (.int .i64 (h 13)) w := by kernel_rfl
theorem ix14_is (w : World) (h : Nat → Nat) : (ixR 64 (.agg (nodA h)) (.int .i64 14)).run Tryz.prog w = .ok (.int .i64 (h 14)) w := by kernel_rfl
theorem ix15_is (w : World) (h : Nat → Nat) : (ixR 64 (.agg (nodA h)) (.int .i64 15)).run Tryz.prog w = .ok (.int .i64 (h 15)) w := by kernel_rfl
theorem ix_is (w : World) (h : Nat → Nat) {i : Nat} (hi : i < 16) : (ixR 64 (.agg (nodA h)) (.int .i64 i)).run Tryz.prog w = .ok (.int .i64 (h i)) w := by
  have : i = 0 ∨ i = 1 ∨ i = 2 ∨ i = 3 ∨ i = 4 ∨ i = 5 ∨ i = 6 ∨ i = 7 ∨ i = 8 ∨ i = 9 ∨ i = 10 ∨ i = 11 ∨ i = 12 ∨ i = 13 ∨ i = 14 ∨ i = 15 := by omega
  rcases this with rfl | rfl | rfl | rfl | rfl | rfl | rfl | rfl | rfl | rfl | rfl | rfl | rfl | rfl | rfl | rfl
  · exact ix0_is w h
  · exact ix1_is w h
  · exact ix2_is w h
  · exact ix3_is w h
  · exact ix4_is w h
  · exact ix5_is w h
  · exact ix6_is w h
  · exact ix7_is w h
  · exact ix8_is w h
  · exact ix9_is w h
  · exact ix10_is w h
  · exact ix11_is w h
  · exact ix12_is w h
  · exact ix13_is w h
  · exact ix14_is w h
  · exact ix15_is w h
theorem tree0 : treA (fun _ => 0) = #[.int .i64 0, .int .i64 0, .int .i64 0, .int .i64 0, .int .i64 0, .int .i64 0, .int .i64 0, .int .i64 0, .int .i64 0, .int .i64 0, .int .i64 0, .int .i64 0, .int .i64 0, .int .i64 0, .int .i64 0, .int .i64 0, .int .u8 0, .int .u8 0, .int .u8 0, .int .u8 0, .int .u8 0, .int .u8 0, .int .u8 0, .int .u8 0, .int .u8 0, .int .u8 0, .int .u8 0, .int .u8 0, .int .u8 0, .int .u8 0, .int .u8 0, .int .u8 0, .int .u8 0, .int .u8 0, .int .u8 0, .int .u8 0, .int .u8 0, .int .u8 0, .int .u8 0, .int .u8 0, .int .u8 0, .int .u8 0, .int .u8 0, .int .u8 0, .int .u8 0, .int .u8 0, .int .u8 0, .int .u8 0] := by kernel_rfl
theorem tree_eq1 (w : World) : (Op.equalIn 9999 64 (.agg ((treA (fun _ => 0)).extract 0 16)) (.agg #[.int .i64 0, .int .i64 0, .int .i64 0, .int .i64 0, .int .i64 0, .int .i64 0, .int .i64 0, .int .i64 0, .int .i64 0, .int .i64 0, .int .i64 0, .int .i64 0, .int .i64 0, .int .i64 0, .int .i64 0, .int .i64 0])).run Tryz.prog w = .ok true w := by kernel_rfl
theorem tree_eq2 (w : World) : (Op.equalIn 9999 162 (.agg ((treA (fun _ => 0)).extract 16 48)) (.agg #[.int .u8 0, .int .u8 0, .int .u8 0, .int .u8 0, .int .u8 0, .int .u8 0, .int .u8 0, .int .u8 0, .int .u8 0, .int .u8 0, .int .u8 0, .int .u8 0, .int .u8 0, .int .u8 0, .int .u8 0, .int .u8 0, .int .u8 0, .int .u8 0, .int .u8 0, .int .u8 0, .int .u8 0, .int .u8 0, .int .u8 0, .int .u8 0, .int .u8 0, .int .u8 0, .int .u8 0, .int .u8 0, .int .u8 0, .int .u8 0, .int .u8 0, .int .u8 0])).run Tryz.prog w = .ok true w := by kernel_rfl
/-- a forest that is right -/
structure FR (G : Nat → Nat) : Prop where
  lt : ∀ k i, k < 4 → i < 16 → G (k * 48 + i) < 256
  tr : ∀ k, k < 4 → G (k * 48) = 0 → treA (fun j => G (k * 48 + j)) = treA (fun _ => 0)
theorem tre_ld {w : World} {b : Nat} {A : Array Value} {G : Nat → Nat} (hr : Row w b 166 A) (hA : A = forA G) {k : Nat} (hk : k < 4) (ht : treA (fun j => G (k * 48 + j)) = treA (fun _ => 0)) :
    (ldR 164 (.pointer (some ⟨b, k * 48, none⟩))).run Tryz.prog w = .ok (.agg (treA (fun _ => 0))) w := by
  have hs : A.size = 192 := by rw [hA, forA_size]
  rw [hr.ld (o := k * 48) (n := 48) (by omega) Tryz.underlying164 rfl (by kernel_rfl), hA, forA_tre G hk, ht]
set_option maxRecDepth 100000 in
set_option maxHeartbeats 400000 in
theorem right_is (w : World) {G : Nat → Nat} (hG : FR G) : Calls Tryz.prog 151 #[.agg (forA G)] w fun e w' => e = .returned (.int .i64 0) ∧ Below w.heap.size w w' := by
  have HG := Lib.hid hG
  have HR0 : Hid (Row (w.alloc (.cells (forA G) 166)) w.heap.size 166 (forA G)) := Lib.hid (row_new w _ _)
  have HB := Lib.hid (Go.Joins.below_alloc1 w (.cells (forA G) 166))
  have HA := Lib.hid (forA_size G)
  clear hG
  obtain ⟨A, hA⟩ : ∃ A, A = forA G := ⟨_, rfl⟩
  rw [← hA] at HR0 HB HA ⊢
  have HAE := Lib.hid hA
  clear hA
  go_enter Tryz.func151, Tryz.ntmps151
  go_upto_region 1 with fail
  generalize w.alloc (.cells A 166) = w0 at *
  go_wp2_with fail
  go_loopw [6] (fun kv wr => ∃ k, k ≤ 4 ∧ kv = .int .i64 (k : Nat) ∧ Hid (Below w.heap.size w wr) ∧ Hid (Row wr w.heap.size 166 A)) (fun kv _ => 4 - (intOf kv).toNat)
  case atStart => exact ⟨0, by omega, rfl, HB, HR0⟩
  case round =>
    clear HB HR0
    obtain ⟨k, hk0, rfl, HB, HR⟩ := hrel
    by_cases hk : k < 4
    · have i0 : (0 : Int) ≤ k := by omega
      have i1 : (k : Int) < 4 := by omega
      have l1 : (ldR 64 (.pointer (some ⟨w.heap.size, k * 48, none⟩))).run Tryz.prog wr = .ok (.agg (nodA (fun j => G (k * 48 + j)))) wr := by
        rw [HR.out.ld (o := k * 48) (n := 16) (by rw [HA.out]; omega) Tryz.underlying64 rfl (by kernel_rfl), HAE.out, forA_nod G hk]
      have HIX := Lib.hid (show ∀ i : Nat, i < 16 → (ixR 64 (.agg (nodA (fun j => G (k * 48 + j)))) (.int .i64 i)).run Tryz.prog wr = .ok (.int .i64 (G (k * 48 + i))) wr from fun i hi => ix_is wr (fun j => G (k * 48 + j)) hi)
      generalize nodA (fun j => G (k * 48 + j)) = N at *
      go_wp2_with fail
      go_loop [13] (fun iv => ∃ i, i ≤ 16 ∧ iv = .int .i64 (i : Nat)) (fun iv => 16 - (intOf iv).toNat)
      case atStart => exact ⟨0, by omega, rfl⟩
      case round =>
        obtain ⟨i, hi0, rfl⟩ := hrel
        by_cases hi : i < 16
        · have j0 : (0 : Int) ≤ i := by omega
          have j1 : (i : Int) < 16 := by omega
          have hx := HIX.out i hi
          have hb := HG.out.lt k i hk hi
          generalize G (k * 48 + i) = g at *
          have g0 : ¬ (g : Int) < 0 := by omega
          have g1 : ¬ (256 : Int) ≤ g := by omega
          clear hb
          go_wp2_with fail
          go_round
          case rel => exact ⟨i + 1, by omega, by go_num⟩
          case measure => simp [intOf]; omega
        · obtain rfl : i = 16 := by omega
          have l2 : (ldR 166 (.pointer (some ⟨w.heap.size, 0, none⟩))).run Tryz.prog wr = .ok (.agg A) wr := HR.out.ld0 Tryz.underlying166 rfl (by rw [HA.out]; kernel_rfl)
          clear HIX l1
          by_cases hz : G (k * 48) = 0
          · have HT := Lib.hid (there_is wr (G := G) hk (b := false) (by rw [hz]; rfl))
            rw [← HAE.out] at HT
            have HZ := Lib.hid hz
            clear hz
            go_upto_region 11 with (go_at_call 156; refine HT.out.mono ?_; rintro e2 w2 ⟨rfl, hb2⟩; have HR2 := Lib.hid (HR.out.keep hb2); have HB2 := Lib.hid (HB.out.trans (hb2.mono HB.out.size)); have l3 := tre_ld HR2.out HAE.out hk (HG.out.tr k hk HZ.out); have l4 := tree_eq1 w2; have l5 := tree_eq2 w2;  clear hb2; generalize treA (fun _ => 0) = T0 at *)
            go_wp2_with fail
            go_roundw
            case rel => exact ⟨k + 1, by omega, by go_num, HB2, HR2⟩
            case measure => simp [intOf]; omega
          · have HT := Lib.hid (there_is wr (G := G) hk (b := true) (by rw [beq_eq_false_iff_ne.2 hz]; rfl))
            rw [← HAE.out] at HT
            clear hz
            go_upto_region 11 with (go_at_call 156; refine HT.out.mono ?_; rintro e2 w2 ⟨rfl, hb2⟩; have HR2 := Lib.hid (HR.out.keep hb2); have HB2 := Lib.hid (HB.out.trans (hb2.mono HB.out.size)); clear hb2)
            go_wp2_with fail
            go_roundw
            case rel => exact ⟨k + 1, by omega, by go_num, HB2, HR2⟩
            case measure => simp [intOf]; omega
    · obtain rfl : k = 4 := by omega
      go_wp2_with fail
      go_ret
      exact ⟨rfl, HB.out⟩
end Go.Proofs.YtafflkemnniegaaGreatDoor
namespace Go.Proofs.YtafflkemnniegaaGreatDoor
open Go.RowKit
set_option linter.unusedVariables false
set_option linter.unusedSimpArgs false
/-- the first c bytes of the nodes' sectors -/
def pkN (G : Nat → Nat) (c : Nat) : List Int := (List.range c).map (fun t => ((G (t / 16 * 48 + t % 16) : Nat) : Int))
/-- what k trees have -/
def pkS (G : Nat → Nat) (k : Nat) : List Int := pkN G 64 ++ (List.range (k * 32)).map (fun t => ((G (t / 32 * 48 + 16 + t % 32) : Nat) : Int))
theorem pkN_len (G c) : (pkN G c).length = c := by simp [pkN]
theorem pkS_len (G k) : (pkS G k).length = 64 + k * 32 := by simp [pkS, pkN]
theorem pkN_next (G : Nat → Nat) {k i : Nat} (hi : i < 16) : pkN G (k * 16 + i + 1) = pkN G (k * 16 + i) ++ [((G (k * 48 + i) : Nat) : Int)] := by
  unfold pkN
  rw [List.range_succ, List.map_append, List.map_cons, List.map_nil]
  congr 3
  have e1 : (k * 16 + i) / 16 = k := by omega
  have e2 : (k * 16 + i) % 16 = i := by omega
  rw [e1, e2]
def setL (G : Nat → Nat) (k : Nat) : List Int := (List.range 32).map (fun j => ((G (k * 48 + 16 + j) : Nat) : Int))
theorem setL_len (G k) : (setL G k).length = 32 := by simp [setL]
theorem pkS_next (G : Nat → Nat) (k : Nat) : pkS G (k + 1) = pkS G k ++ setL G k := by
  unfold pkS setL
  rw [List.append_assoc]
  congr 1
  apply List.ext_getElem
  · simp; omega
  · intro i h1 h2
    simp only [List.length_map, List.length_range] at h1
    rw [List.getElem_map, List.getElem_range]
    by_cases hi : i < k * 32
    · rw [List.getElem_append_left (by simpa using hi), List.getElem_map, List.getElem_range]
    · rw [List.getElem_append_right (by simpa using hi), List.getElem_map, List.getElem_range]
      simp only [List.length_map, List.length_range]
      have e1 : i / 32 = k := by omega
      have e2 : i % 32 = i - k * 32 := by omega
      rw [e1, e2]
theorem set_cells {w : World} {b : Nat} {A : Array Value} {G : Nat → Nat} (hr : Row w b 166 A) (hA : A = forA G) {k : Nat} (hk : k < 4) : ∀ j u, ((setL G k).map u8V)[j]? = some u → w.cell? ((⟨b, k * 48 + 16, none⟩ : Addr).add j) = some u := by
  refine cells_u8 fun i hi => ?_
  rw [setL_len] at hi
  rw [hr.cell, hA, forA_get _ (by omega), fV_hi hi]
  simp [setL, List.getD, hi]
attribute [local go_sem ↓] ld_set st_set ld_for st_for ld_tre ld_nod ix_nod appB_eq
set_option maxRecDepth 100000 in
set_option maxHeartbeats 1000000 in
theorem pack_is (w : World) {G : Nat → Nat} (hG : FR G) : Calls Tryz.prog 75 #[.agg (forA G)] w fun e w' => ∃ v, e = .returned (.tuple #[v, .int .i64 0]) ∧ OB w.heap.size w' v (pkS G 4) ∧ Below w.heap.size w w' := by
  have HG := Lib.hid hG
  have HR0 : Hid (Row (w.alloc (.cells (forA G) 166)) w.heap.size 166 (forA G)) := Lib.hid (row_new w _ _)
  have HB := Lib.hid (Go.Joins.below_alloc1 w (.cells (forA G) 166))
  have HA := Lib.hid (forA_size G)
  have HRI := Lib.hid (right_is (w.alloc (.cells (forA G) 166)) hG)
  have HZ : Hid ((w.alloc (.cells (forA G) 166)).heap.size = w.heap.size + 1) := Lib.hid (by simp)
  clear hG
  obtain ⟨A, hA⟩ : ∃ A, A = forA G := ⟨_, rfl⟩
  rw [← hA] at HR0 HB HA HRI HZ ⊢
  have HAE := Lib.hid hA
  clear hA
  have l0 : (ldR 166 (.pointer (some ⟨w.heap.size, 0, none⟩))).run Tryz.prog (w.alloc (.cells A 166)) = .ok (.agg A) (w.alloc (.cells A 166)) := HR0.out.ld0 Tryz.underlying166 rfl (by rw [HA.out]; kernel_rfl)
  go_enter Tryz.func75, Tryz.ntmps75
  go_upto_region 1 with fail
  generalize w.alloc (.cells A 166) = w0 at *
  go_upto_region 2 with (go_at_call 151; refine HRI.out.mono ?_; rintro e1 w1 ⟨rfl, hb1⟩)
  have HR1 := Lib.hid (HR0.out.keep hb1)
  have HB1 := Lib.hid (HB.out.trans (hb1.mono HB.out.size))
  have HZ1 : Hid (w.heap.size + 1 ≤ w1.heap.size) := Lib.hid (by rw [← HZ.out]; exact hb1.size)
  clear HRI HR0 HB HZ l0 hb1
  go_wp2_with fail
  go_loopw [5, 15] (fun ov kv wr => ∃ k v, k ≤ 4 ∧ v = ov ∧ kv = .int .i64 (k : Nat) ∧ Hid (Below (w.heap.size + 1) w1 wr) ∧ Hid (OB (w.heap.size + 1) wr v (pkN G (k * 16)))) (fun ov kv _ => 4 - (intOf kv).toNat)
  case atStart => exact ⟨0, _, by omega, rfl, rfl, Lib.hid (Below.refl _ _), Lib.hid (OB.nil _ _)⟩
  case round =>
    obtain ⟨k, v, hk0, rfl, rfl, HB, HO⟩ := hrel
    by_cases hk : k < 4
    · have i0 : (0 : Int) ≤ k := by omega
      have i1 : (k : Int) < 4 := by omega
      have HR := Lib.hid (HR1.out.keepB HB.out (Nat.lt_succ_self _))
      have l1 : (ldR 64 (.pointer (some ⟨w.heap.size, k * 48, none⟩))).run Tryz.prog wr = .ok (.agg (nodA (fun j => G (k * 48 + j)))) wr := by
        rw [HR.out.ld (o := k * 48) (n := 16) (by rw [HA.out]; omega) Tryz.underlying64 rfl (by kernel_rfl), HAE.out, forA_nod G hk]
      have HIX := Lib.hid (show ∀ (w : World) (i : Nat), i < 16 → (ixR 64 (.agg (nodA (fun j => G (k * 48 + j)))) (.int .i64 i)).run Tryz.prog w = .ok (.int .i64 (G (k * 48 + i))) w from fun w i hi => ix_is w (fun j => G (k * 48 + j)) hi)
      generalize nodA (fun j => G (k * 48 + j)) = N at *
      go_wp2_with fail
      have HO0 : Hid (OB (w.heap.size + 1) wr v (pkN G (k * 16 + 0))) := HO
      clear l1 HR HO
      go_loopw [5, 22] (fun ov iv wr => ∃ i v, i ≤ 16 ∧ v = ov ∧ iv = .int .i64 (i : Nat) ∧ Hid (Below (w.heap.size + 1) w1 wr) ∧ Hid (OB (w.heap.size + 1) wr v (pkN G (k * 16 + i)))) (fun ov iv _ => 16 - (intOf iv).toNat)
      case atStart => exact ⟨0, _, by omega, rfl, rfl, HB, HO0⟩
      case round =>
        clear HO0 HB
        obtain ⟨i, v, hi0, rfl, rfl, HB, HO⟩ := hrel
        by_cases hi : i < 16
        · have j0 : (0 : Int) ≤ i := by omega
          have j1 : (i : Int) < 16 := by omega
          have hx := HIX.out wr i hi
          have hb := HG.out.lt k i hk hi
          have HN := Lib.hid (pkN_next G (k := k) hi)
          have HSZ : Hid (w.heap.size + 1 ≤ wr.heap.size) := Lib.hid (Nat.le_trans HZ1.out HB.out.size)
          obtain ⟨p, c', w3, hap, ho3, -, hb3⟩ := HO.out.push HSZ.out (G (k * 48 + i)) (by rw [pkN_len]; omega)
          rw [pkN_len] at hap ho3
          rw [← HN.out] at ho3
          have HO3 := Lib.hid ho3
          have HB3 := Lib.hid (HB.out.trans hb3)
          clear ho3 hb3
          generalize G (k * 48 + i) = g at *
          have y1 : IntKind.u8.wrap (g : Int) = g := by rw [IntKind.wrap_u8]; omega
          have y2 : (g : Int) % 256 = g := by omega
          clear hb
          go_wp2_with fail
          go_roundw
          case rel => exact ⟨i + 1, _, by omega, rfl, by go_num, HB3, HO3⟩
          case measure => simp [intOf]; omega
        · obtain rfl : i = 16 := by omega
          have HO4 : Hid (OB (w.heap.size + 1) wr v (pkN G ((k + 1) * 16))) := by
            have e : (k + 1) * 16 = k * 16 + 16 := by omega
            rw [e]; exact HO
          go_wp2_with fail
          go_roundw
          case rel => exact ⟨k + 1, _, by omega, rfl, by go_num, HB, HO4⟩
          case measure => simp [intOf]; omega
    · obtain rfl : k = 4 := by omega
      have HO0 : Hid (OB (w.heap.size + 1) wr v (pkS G 0)) := by
        have e : pkS G 0 = pkN G (4 * 16) := by simp [pkS]
        rw [e]; exact HO
      clear HO
      go_wp2_with fail
      go_loopw [5, 32] (fun ov kv wr => ∃ k v, k ≤ 4 ∧ v = ov ∧ kv = .int .i64 (k : Nat) ∧ Hid (Below (w.heap.size + 1) w1 wr) ∧ Hid (OB (w.heap.size + 1) wr v (pkS G k))) (fun ov kv _ => 4 - (intOf kv).toNat)
      case atStart => exact ⟨0, _, by omega, rfl, rfl, HB, HO0⟩
      case round =>
        clear HO0 HB
        obtain ⟨k, v, hk0, rfl, rfl, HB, HO⟩ := hrel
        by_cases hk : k < 4
        · have i0 : (0 : Int) ≤ k := by omega
          have i1 : (k : Int) < 4 := by omega
          have HR := Lib.hid (HR1.out.keepB HB.out (Nat.lt_succ_self _))
          have HSZ : Hid (w.heap.size + 1 ≤ wr.heap.size) := Lib.hid (Nat.le_trans HZ1.out HB.out.size)
          obtain ⟨p, c', w3, hap, ho3, -, hb3⟩ := HO.out.app HSZ.out (c := 32) (set_cells HR.out HAE.out hk) (by rw [pkS_len, setL_len]; omega)
          rw [setL_len] at hap ho3
          rw [← pkS_next] at ho3
          have HO3 := Lib.hid ho3
          have HB3 := Lib.hid (HB.out.trans hb3)
          clear ho3 hb3
          go_wp2_with fail
          go_roundw
          case rel => exact ⟨k + 1, _, by omega, rfl, by go_num, HB3, HO3⟩
          case measure => simp [intOf]; omega
        · obtain rfl : k = 4 := by omega
          go_wp2_with fail
          go_ret2
          exact ⟨_, rfl, HO.out.base (Nat.le_succ _), HB1.out.trans (HB.out.mono (Nat.le_succ _))⟩
end Go.Proofs.YtafflkemnniegaaGreatDoor
namespace Go.Proofs.YtafflkemnniegaaGreatDoor
open Go.RowKit
set_option linter.unusedVariables false
set_option linter.unusedSimpArgs false
theorem At.cellB {w : World} {a : Option Addr} {n cap : Nat} {l : List Int} (h : At (Value.int .u8) 0 w (.slice a n cap) l) : l = [] ∨ ∃ b off, a = some ⟨b, off, none⟩ ∧ b < w.heap.size ∧ ∀ i, i < l.length → w.cell? ⟨b, off + i, none⟩ = some (.int .u8 (l.getD i 0)) := by
  obtain ⟨a', cap', e, _, _, h⟩ := h
  injection e with e1 e2 e3
  rcases h with h | ⟨b, off, h1, h2, h3⟩
  · exact .inl h
  · exact .inr ⟨b, off, by rw [e1, h1], h2, h3⟩
theorem own_cells {w : World} {B n c : Nat} {p : Option Addr} {l : List Int} (ho : w.ownsRow B 5 1 (.slice p n c) n (l.map u8V)) (hl : l.length = n) (h0 : 0 < n) : ∃ b o, p = some ⟨b, o, none⟩ ∧ ∀ j u, (l.map u8V)[j]? = some u → w.cell? ((⟨b, o, none⟩ : Addr).add j) = some u := by
  subst hl
  rcases At.cellB (at_of_owned (f := Value.int .u8) (d := 0) (xs := l) ho) with e | ⟨b, o, e, -, hc⟩
  · rw [e] at h0; simp at h0
  · exact ⟨b, o, e, cells_u8 hc⟩
theorem OB.app' {B n : Nat} {w : World} {v : Value} {l : List Int} (h : OB B w v l) (hB : B ≤ w.heap.size) {a : Addr} {c : Nat} {news : List Int} (hl : news.length = n) (hn : ∀ j u, (news.map u8V)[j]? = some u → w.cell? (a.add j) = some u) (h64 : l.length + n ≤ 1000000) :
    ∃ p c' w', (appB #[v, .slice (some a) n c]).run Tryz.prog w = .ok (.slice p (l.length + n) c') w' ∧ OB B w' (.slice p (l.length + n) c') (l ++ news) ∧ Below B w w' := by
  subst hl
  obtain ⟨p, c', w', h1, h2, -, h3⟩ := h.app hB (c := c) hn h64
  exact ⟨p, c', w', h1, h2, h3⟩
set_option maxRecDepth 100000 in
set_option maxHeartbeats 400000 in
theorem equalB_is {w : World} {v v' : Value} {l : List Int} (h64 : l.length ≤ 1000000) (hv : At (Value.int .u8) 0 w v l) (hv' : At (Value.int .u8) 0 w v' l) : Calls Tryz.prog 80 #[v, v'] w fun e w' => e = .returned (.bool true) ∧ Below w.heap.size w w' := by
  have HV := Lib.hid hv
  have HV' := Lib.hid hv'
  obtain ⟨a, cap, rfl, hl, hcm, -⟩ := hv
  obtain ⟨a', cap', rfl, hl', hcm', -⟩ := hv'
  have HL := Lib.hid h64
  obtain ⟨n, hn⟩ : ∃ n, n = l.length := ⟨_, rfl⟩
  rw [← hn] at h64 hl hl' HV HV' ⊢
  have HN := Lib.hid hn
  have i0 : (n : Int) ≤ 1000000 := by omega
  clear hn h64 hcm hcm' hl hl' HL
  go_enter Tryz.func80, Tryz.ntmps80
  go_wp2_with fail
  go_loopw [13] (fun iv wr => ∃ i, i ≤ n ∧ iv = .int .i64 (i : Nat) ∧ Hid (Below w.heap.size w wr)) (fun iv _ => n - (intOf iv).toNat)
  case atStart => exact ⟨0, Nat.zero_le _, rfl, Lib.hid (Below.refl _ _)⟩
  case round =>
    obtain ⟨i, hi0, rfl, HB⟩ := hrel
    by_cases hi : i < n
    · have j0 : (0 : Int) ≤ i := by omega
      have j1 : (i : Int) < n := by omega
      have HB1 := Lib.hid HB.out.drew
      rcases At.cellB (HV.out.keep HB1.out) with e | ⟨b, o, rfl, hlt, hc⟩
      · have := HN.out; rw [e] at this; simp at this; omega
      rcases At.cellB (HV'.out.keep HB1.out) with e | ⟨b', o', rfl, hlt', hc'⟩
      · have := HN.out; rw [e] at this; simp at this; omega
      have c1 := hc i (by rw [← HN.out]; exact hi)
      have c2 := hc' i (by rw [← HN.out]; exact hi)
      generalize l.getD i 0 = x at *
      clear hc hc' hlt hlt' HB
      go_upto_region 6 with fail
      go_region
      go_wp2_with fail
      go_roundw
      case rel => exact ⟨i + 1, by omega, by go_num, HB1⟩
      case measure => simp [intOf]; omega
    · obtain rfl : i = n := by omega
      go_wp2_with fail
      go_ret
      exact ⟨rfl, HB.out⟩
end Go.Proofs.YtafflkemnniegaaGreatDoor
