/- The walk of load.page. -/
import Derived.Test.YtgdihccmkleimaaBootTrim
namespace Go.Proofs.Ytgdihccmkleimaa.BootLaw
open Go.RowKit
set_option linter.unusedVariables false
set_option linter.unusedSimpArgs false
theorem encP_len (p : Pg) : (encP p).length = p.da.length + 3 := by simp [encP]
theorem enc0 (p : Pg) (r : List Int) : (encP p ++ r).getD 0 0 = p.pg := by simp [encP]
theorem enc1 (p : Pg) (r : List Int) : (encP p ++ r).getD 1 0 = p.rt := by simp [encP]
theorem enc2 (p : Pg) (r : List Int) : (encP p ++ r).getD 2 0 = (p.da.length : Int) := by simp [encP]
theorem encD (p : Pg) (r : List Int) (j : Nat) (h : j < p.da.length) : (encP p ++ r).getD (3 + j) 0 = p.da.getD j 0 := by
  rw [show encP p ++ r = [p.pg, p.rt, (p.da.length : Int)] ++ (p.da ++ r) by simp [encP]]
  rw [List.getD_eq_getElem?_getD, List.getElem?_append_right (by simp), List.getD_eq_getElem?_getD]
  rw [show 3 + j - [p.pg, p.rt, (p.da.length : Int)].length = j by simp, List.getElem?_append_left h]
theorem encR (p : Pg) (r : List Int) (j : Nat) : (encP p ++ r).getD (3 + p.da.length + j) 0 = r.getD j 0 := by
  rw [List.getD_eq_getElem?_getD, List.getElem?_append_right (by rw [encP_len]; omega), List.getD_eq_getElem?_getD]
  rw [show 3 + p.da.length + j - (encP p).length = j by rw [encP_len]; omega]
/-- a part of a slice of bytes -/
theorem BS.part {w : World} {b off cap : Nat} {l : List Int} (hlt : b < w.heap.size) (hc : ∀ i, i < l.length → w.cell? ⟨b, off + i, none⟩ = some (.int .u8 (l.getD i 0))) (hle : l.length ≤ cap) (hm : cap ≤ maxLen) : BS w (.slice (some ⟨b, off, none⟩) l.length cap) l :=
  ⟨_, cap, rfl, hle, hm, .inr ⟨b, off, rfl, hlt, hc⟩⟩
/-- bytes in a slice with room behind them -/
def BX (w : World) (v : Value) (l : List Int) : Prop :=
  ∃ b off cap, v = .slice (some ⟨b, off, none⟩) l.length cap ∧ l.length < cap ∧ cap ≤ maxLen ∧ b < w.heap.size ∧ ∀ i, i < l.length → w.cell? ⟨b, off + i, none⟩ = some (.int .u8 (l.getD i 0))
theorem BX.keep {w w' : World} {v : Value} {l : List Int} (h : BX w v l) (hb : Below w.heap.size w w') : BX w' v l := by
  obtain ⟨b, off, cap, hv, hl, hm, hlt, hc⟩ := h
  exact ⟨b, off, cap, hv, hl, hm, Nat.lt_of_lt_of_le hlt hb.size, fun i hi => (hb.cell (p := ⟨b, off + i, none⟩) hlt).trans (hc i hi)⟩
/-- what is left of a slice behind k cells -/
def behind (k : Nat) : Value → Value
  | .slice (some ⟨b, off, none⟩) n cap => .slice (some ⟨b, off + k, none⟩) (n - k) (cap - k)
  | v => v
theorem BX.behind {w : World} {v : Value} {p : Pg} {rest : List Int} (h : BX w v (encP p ++ rest)) : BX w (behind (3 + p.da.length) v) rest := by
  obtain ⟨b, off, cap, rfl, hl, hm, hlt, hc⟩ := h
  have hlen : (encP p ++ rest).length = p.da.length + 3 + rest.length := by rw [List.length_append, encP_len]
  refine ⟨b, off + (3 + p.da.length), cap - (3 + p.da.length), ?_, by omega, by omega, hlt, fun i hi => ?_⟩
  · show Value.slice _ ((encP p ++ rest).length - (3 + p.da.length)) _ = _
    rw [hlen, show p.da.length + 3 + rest.length - (3 + p.da.length) = rest.length by omega]
  · have := hc (3 + p.da.length + i) (by omega)
    rw [encR] at this
    rw [Nat.add_assoc]
    exact this
def PagePost (v : Value) (p : Pg) (rest : List Int) (w : World) (E : Ending) (w' : World) : Prop :=
  ∃ d v', E = .returned (.tuple #[.agg #[.int .i64 p.pg, .int .i64 p.rt, d], v', .bool true]) ∧ w'.ownsRow (w.heap.size + 1) 5 1 d p.da.length (p.da.map u8V) ∧ (BX w' v' rest ∧ v' = behind (3 + p.da.length) v) ∧ Below w.heap.size w w'
set_option maxRecDepth 100000 in
set_option maxHeartbeats 1000000 in
theorem page_is {w : World} {v : Value} {p : Pg} {rest : List Int} (h : BX w v (encP p ++ rest)) (h16 : p.da.length ≤ 16) (h0 : 0 ≤ p.pg) (h1 : p.pg < 64) (h2 : 1 ≤ p.rt) (h3 : p.rt ≤ 5) : Calls Try.prog 68 #[v] w (PagePost v p rest w) := by
  obtain ⟨b, off, cap, rfl, hl, hm, hlt, hc⟩ := h
  have hlen : (encP p ++ rest).length = p.da.length + 3 + rest.length := by rw [List.length_append, encP_len]
  have c0 := hc 0 (by omega)
  have c1 := hc 1 (by omega)
  have c2 := hc 2 (by omega)
  rw [enc0, Nat.add_zero] at c0
  rw [enc1] at c1
  rw [enc2] at c2
  have ht : (3 + (p.da.length : Int)).toNat = 3 + p.da.length := by omega
  have hd : BS w (.slice (some ⟨b, off + 3, none⟩) ((3 + (p.da.length : Int)).toNat - 3) (cap - 3)) p.da := by
    rw [ht, Nat.add_sub_cancel_left]
    exact BS.part hlt (fun i hi => by have := hc (3 + i) (by omega); rw [encD _ _ _ hi] at this; rw [Nat.add_assoc]; exact this) (by omega) (by omega)
  have hr : BX w (.slice (some ⟨b, off + (3 + (p.da.length : Int)).toNat, none⟩) ((p.da.length + 3 + rest.length) - (3 + (p.da.length : Int)).toNat) (cap - (3 + (p.da.length : Int)).toNat)) rest := by
    rw [ht]
    exact ⟨b, _, _, by rw [show p.da.length + 3 + rest.length - (3 + p.da.length) = rest.length by omega], by omega, by omega, hlt, fun i hi => by have := hc (3 + p.da.length + i) (by omega); rw [encR] at this; rw [Nat.add_assoc]; exact this⟩
  have q1 : ¬ cap = 3 := by omega
  have q2 : ¬ cap = (3 + (p.da.length : Int)).toNat := by omega
  have HBH := Lib.hid (show Value.slice (some ⟨b, off + (3 + (p.da.length : Int)).toNat, none⟩) ((p.da.length + 3 + rest.length) - (3 + (p.da.length : Int)).toNat) (cap - (3 + (p.da.length : Int)).toNat) = behind (3 + p.da.length) (.slice (some ⟨b, off, none⟩) (p.da.length + 3 + rest.length) cap) from by rw [ht]; rfl)
  clear ht
  rw [hlen] at hl ⊢
  clear hc hlen
  have HD := Lib.hid hd
  have HR := Lib.hid hr
  clear hd hr
  obtain ⟨pg, rt, da⟩ := p
  dsimp only at *
  generalize hdl : da.length = n at *
  have HDL := Lib.hid hdl
  generalize hrl : rest.length = m at *
  have HRL := Lib.hid hrl
  clear hdl hrl
  obtain ⟨l, hlm⟩ : ∃ l, n + 3 + m = l := ⟨_, rfl⟩
  rw [hlm] at hl HR HBH ⊢
  have hmx : (cap : Int) ≤ 9223372036854775807 := by have : cap ≤ maxLen := hm; unfold maxLen at this; omega
  have p0 : (0 : Int) < (l : Int) := by omega
  have p1 : (1 : Int) < (l : Int) := by omega
  have p2 : (2 : Int) < (l : Int) := by omega
  have p3 : (3 : Int) + n ≤ (l : Int) := by omega
  have p4 : (3 : Int) + n ≤ (cap : Int) := by omega
  have p5 : (l : Int) ≤ (cap : Int) := by omega
  have p6 : (0 : Int) ≤ 3 + (n : Int) := by omega
  have p7 : 0 < l := by omega
  have p8 : (l : Int) ≤ (l : Int) := by omega
  have v0 : IntKind.i64.wrap pg = pg := IntWalk.i64_in _ (by omega)
  have v1 : IntKind.i64.wrap rt = rt := IntWalk.i64_in _ (by omega)
  have g0 : ¬ ((l : Int) < 3) := by omega
  have g1 : ¬ ((l : Int) - 3 < n) := by omega
  have u0 : IntKind.i64.wrap ((l : Int) - 3) = (l : Int) - 3 := IntWalk.i64_in _ (by omega)
  have hmn : m = l - (3 + n) := by omega
  go_enter Try.func68, Try.ntmps68
  go_upto_region 4 with fail
  have hb1 := Go.Joins.below_alloc1 w (.cells #[.int .i64 0, .int .i64 0, .slice none 0 0] 96)
  have hh := heap_alloc_new w (.cells #[.int .i64 0, .int .i64 0, .slice none 0 0] 96)
  have hk : ∀ j u, [Value.int .i64 0, .int .i64 0, .slice none 0 0][j]? = some u → (w.alloc (.cells #[.int .i64 0, .int .i64 0, .slice none 0 0] 96)).cell? ⟨w.heap.size, j, none⟩ = some u := fun j u hj => by
    rw [cell_of_row _ _ _ _ _ _ hh]; simpa using hj
  have hf : ∀ j, (w.alloc (.cells #[.int .i64 0, .int .i64 0, .slice none 0 0] 96)).frozen? ⟨w.heap.size, j, none⟩ = false := fun j => by simp only [World.frozen?, hh]; simp
  have hs1 : w.heap.size < (w.alloc (.cells #[.int .i64 0, .int .i64 0, .slice none 0 0] 96)).heap.size := by simp
  have HS0 := Lib.hid hs1
  have HW := Lib.hid hb1
  have HK1 := Lib.hid hk
  have HF1 := Lib.hid hf
  clear hb1 hh hk hf hs1
  revert HS0 HW HK1 HF1
  generalize w.alloc (.cells #[.int .i64 0, .int .i64 0, .slice none 0 0] 96) = w1
  intro HS0 HW HK1 HF1
  have hbo : ∀ wx, Below w.heap.size w wx → (Below w.heap.size w wx ∧ wx.cell? ⟨b, off, none⟩ = some (.int .u8 pg) ∧ wx.cell? ⟨b, off + 1, none⟩ = some (.int .u8 rt)) := fun wx hb => ⟨hb, (hb.cell (p := ⟨b, off, none⟩) hlt).trans c0, (hb.cell (p := ⟨b, off + 1, none⟩) hlt).trans c1⟩
  have HBO := Lib.hid hbo
  have HB3 := Lib.hid (show ∀ (wx : World) (x y z : Value), (Below w.heap.size w wx ∧ wx.cell? ⟨b, off, none⟩ = some (.int .u8 pg) ∧ wx.cell? ⟨b, off + 1, none⟩ = some (.int .u8 rt)) → _ from fun wx x y z h => HBO.out (((wx.setCell ⟨w.heap.size, 0, none⟩ x).setCell ⟨w.heap.size, 1, none⟩ y).setCell ⟨w.heap.size, 2, none⟩ z) (((h.1.setCell (Nat.le_refl _) _).setCell (Nat.le_refl _) _).setCell (Nat.le_refl _) _))
  have HB1 := Lib.hid (Below.refl w1.heap.size w1).drew
  have hcl := clone_is (w := w1.drew) (by rw [HDL.out]; omega) (HD.out.keep (HW.out.trans (HB1.out.mono HW.out.size)))
  have HCL := Lib.hid hcl
  clear hcl hbo
  have e0 : (3 : Int) ≤ 3 + n := by omega
  go_region_held3 (fun wx => Below w.heap.size w wx ∧ wx.cell? ⟨b, off, none⟩ = some (.int .u8 pg) ∧ wx.cell? ⟨b, off + 1, none⟩ = some (.int .u8 rt)) (first | assumption | exact HBO.out _ HW.out | exact HBO.out _ (HW.out.trans (HB1.out.mono HW.out.size)) | exact HB3.out _ _ _ _ (by assumption) | go_keep)
    (first | (go_at_call 76; (with_reducible refine HCL.out.mono ?_); rintro e9 w9 ⟨v9, rfl, ho9, hb9⟩; obtain ⟨a9, k9, rfl⟩ := own_form ho9; have hB9 := HB1.out.trans hb9; have hS := HBO.out _ (HW.out.trans (hB9.mono HW.out.size)); have j0 := (hB9.cell (p := ⟨w.heap.size, 0, none⟩) HS0.out).trans (HK1.out 0 _ rfl); have j1 := (hB9.cell (p := ⟨w.heap.size, 1, none⟩) HS0.out).trans (HK1.out 1 _ rfl); have j2 := (hB9.cell (p := ⟨w.heap.size, 2, none⟩) HS0.out).trans (HK1.out 2 _ rfl); have f0 := (hB9.frozen (p := ⟨w.heap.size, 0, none⟩) HS0.out).trans (HF1.out 0); have f1 := (hB9.frozen (p := ⟨w.heap.size, 1, none⟩) HS0.out).trans (HF1.out 1); have f2 := (hB9.frozen (p := ⟨w.heap.size, 2, none⟩) HS0.out).trans (HF1.out 2)))
  go_wp2_with fail
  have hfin := (((HW.out.trans (hB9.mono HW.out.size)).setCell (p := ⟨w.heap.size, 0, none⟩) (Nat.le_refl _) (.int .i64 pg)).setCell (p := ⟨w.heap.size, 1, none⟩) (Nat.le_refl _) (.int .i64 rt)).setCell (p := ⟨w.heap.size, 2, none⟩) (Nat.le_refl _) (.slice a9 da.length k9)
  refine bodyPost_ret (v := .tuple #[.agg #[.int .i64 pg, .int .i64 rt, .slice a9 da.length k9], .slice (some ⟨b, off + (3 + (n : Int)).toNat, none⟩) (l - (3 + (n : Int)).toNat) (cap - (3 + (n : Int)).toNat), .bool true]) (by simp [results, Try.results68, go_sem, j0, j1, j2]) rfl ⟨_, _, rfl, ?_, ?_, ?_⟩
  · have ho : w9.ownsRow (w.heap.size + 1) 5 1 (.slice a9 da.length k9) da.length (da.map u8V) := owns_base ho9 HS0.out
    exact owns_set (owns_set (owns_set ho (Nat.lt_succ_self _)) (Nat.lt_succ_self _)) (Nat.lt_succ_self _)
  · exact ⟨HR.out.keep hfin, HBH.out.trans (by show behind (3 + n) _ = behind (3 + da.length) _; rw [HDL.out])⟩
  · exact hfin
end Go.Proofs.Ytgdihccmkleimaa.BootLaw
