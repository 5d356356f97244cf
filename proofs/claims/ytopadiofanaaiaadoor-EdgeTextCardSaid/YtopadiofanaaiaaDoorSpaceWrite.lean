/- The walk of space's Write. -/
import Derived.Test.YtopadiofanaaiaaDoorSpaceLay
namespace Go.Proofs.YtopadiofanaaiaaDoor
open Go.RowKit Go.Maps
set_option linter.unusedVariables false
set_option linter.unusedSimpArgs false
section
variable {Z : Nat} {tag : Nat → Nat} {w : World} {M so im : Nat} {pv : Value} {pg : Nat → Nat} {np : Nat} {first : Int} {dt : Nat → Nat → Int}
set_option maxRecDepth 100000 in
set_option maxHeartbeats 400000 in
theorem write_is (h : Mem Z tag w M so im pv pg np first dt) {ad : Int} {b off cap : Nat} {xs : List Int} (hb : b < w.heap.size) (htb : tag b = 0) (hcp : xs.length ≤ cap) (hcm : cap ≤ maxLen) (hc : ∀ i, i < xs.length → w.cell? ⟨b, off + i, none⟩ = some (.int .u8 (xs.getD i 0)))
    (hn : 1 ≤ xs.length) (hn' : xs.length ≤ 256) (hf : 0 ≤ first) (ha : 0 ≤ ad) (ha' : ad + xs.length ≤ 1024) (hlo : first ≤ ad / 16) (hhi : (ad + xs.length - 1) / 16 < first + np) (hnp : np ≤ 8) :
    Calls Tryd.prog 9 #[.pointer (some ⟨M, 0, none⟩), .int .i64 1, .int .i64 ad, .slice (some ⟨b, off, none⟩) xs.length cap] w fun e w' => e = .returned (.int .i64 0) ∧ Mem Z tag w' M so im pv pg np first (laidT first ad xs dt xs.length) ∧ Turn tag w w' := by
  have m4 := h.m4
  have l1 := h.one
  have l2 := not_nil im w
  have HMAY := Lib.hid (may_is h (ad := ad) (n := xs.length) (wt := 2) hf (by omega) (by omega) ha (by omega) hlo hhi (.inr rfl))
  have HLAY := Lib.hid (fun (wx : World) (hx : Below w.heap.size w wx) => lay_is (h.keep hx) (xs := xs) (Nat.lt_of_lt_of_le hb hx.size) htb hcp hcm (fun i hi => (hx.cell (p := ⟨b, off + i, none⟩) hb).trans (hc i hi)) hn hn' hf ha ha' hlo hhi hnp)
  have hmx : (cap : Int) ≤ 9223372036854775807 := by unfold maxLen at hcm; omega
  have i0 : ¬ (256 : Int) < (xs.length : Int) := by omega
  clear h hc hcm
  generalize laidT first ad xs dt xs.length = dt' at *
  generalize xs.length = L at *
  go_enter Tryd.func9, Tryd.ntmps9
  go_upto_region 7 with (go_at_call 17; refine HMAY.out.mono ?_; rintro e1 w1 ⟨rfl, hb1⟩)
  have HB1 := Lib.hid hb1
  have HL1 := Lib.hid (HLAY.out w1 hb1)
  clear hb1 HLAY HMAY
  go_wp2_with (go_at_call 18; refine HL1.out.mono ?_; rintro e2 w2 ⟨rfl, hm2, ht2⟩)
  go_ret
  exact ⟨rfl, hm2, (Turn.of_below HB1.out).trans ht2⟩
end
end Go.Proofs.YtopadiofanaaiaaDoor
