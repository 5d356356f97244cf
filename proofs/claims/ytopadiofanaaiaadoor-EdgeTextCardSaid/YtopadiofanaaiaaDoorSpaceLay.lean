/- The walks of space's lay and Write. -/
import Derived.Test.YtopadiofanaaiaaDoorSpaceLoad
namespace Go.Proofs.YtopadiofanaaiaaDoor
open Go.RowKit Go.Maps
set_option linter.unusedVariables false
set_option linter.unusedSimpArgs false
/-- The pages behind a write of the first k bytes of xs at ad. -/
def laidT (first ad : Int) (xs : List Int) (dt : Nat → Nat → Int) : Nat → Nat → Nat → Int
  | 0 => dt
  | k + 1 => fun p => if p = ((ad + k) / 16 - first).toNat then (fun j => if j = ((ad + k) % 16).toNat then xs.getD k 0 else laidT first ad xs dt k p j) else laidT first ad xs dt k p
theorem laidT_succ (first ad : Int) (xs : List Int) (dt : Nat → Nat → Int) (k j : Nat) (hj : j = ((ad + (k : Int)) % 16).toNat) : laidT first ad xs dt (k + 1) = fun p => if p = ((ad + (k : Int)) / 16 - first).toNat then (fun z => if z = j then xs.getD k 0 else laidT first ad xs dt k p z) else laidT first ad xs dt k p := by
  rw [hj]
  rfl
section
variable {Z : Nat} {tag : Nat → Nat} {w : World} {M so im : Nat} {pv : Value} {pg : Nat → Nat} {np : Nat} {first : Int} {dt : Nat → Nat → Int}
theorem Mem.lay (h : Mem Z tag w M so im pv pg np first dt) {i j : Nat} (hi : i < np) (hj : j < 16) (x : Int) : Mem Z tag (w.setCell ⟨pg i, j, none⟩ (.int .u8 x)) M so im pv pg np first (fun p => if p = i then (fun b => if b = j then x else dt p b) else dt p) := by
  have := h.page hi (grown_set w (pg i) j (.int .u8 x)) ((h.pgs i hi).byte hj x)
  have e : (fun p => if p = i then (fun b => if b = j then x else dt p b) else dt p) = (fun k => if k = i then (fun b => if b = j then x else dt i b) else dt k) := by
    funext p
    by_cases hp : p = i
    · subst hp; rfl
    · rw [if_neg hp, if_neg hp]
  rw [e]
  exact this
theorem below_drewN {B : Nat} {a w : World} (h : Below B a w) (n : Nat) : Below B a (w.drewN n) := ⟨h.os, h.tape, h.output, h.size, h.block⟩
theorem Turn.cell {w' : World} (h : Turn tag w w') {b o : Nat} (hb : b < w.heap.size) (ht : tag b = 0) : w'.cell? ⟨b, o, none⟩ = w.cell? ⟨b, o, none⟩ := by
  have := h.block b hb ht
  simp only [World.cell?, this]
theorem Turn.frozen {w' : World} (h : Turn tag w w') {b o : Nat} (hb : b < w.heap.size) (ht : tag b = 0) : w'.frozen? ⟨b, o, none⟩ = w.frozen? ⟨b, o, none⟩ := by
  have := h.block b hb ht
  simp only [World.frozen?, this]
set_option maxRecDepth 100000 in
set_option maxHeartbeats 1000000 in
theorem lay_is (h : Mem Z tag w M so im pv pg np first dt) {ad : Int} {b off cap : Nat} {xs : List Int} (hb : b < w.heap.size) (htb : tag b = 0) (hcp : xs.length ≤ cap) (hcm : cap ≤ maxLen) (hc : ∀ i, i < xs.length → w.cell? ⟨b, off + i, none⟩ = some (.int .u8 (xs.getD i 0)))
    (hn : 1 ≤ xs.length) (hn' : xs.length ≤ 256) (hf : 0 ≤ first) (ha : 0 ≤ ad) (ha' : ad + xs.length ≤ 1024) (hlo : first ≤ ad / 16) (hhi : (ad + xs.length - 1) / 16 < first + np) (hnp : np ≤ 8) :
    Calls Tryd.prog 18 #[.pointer (some ⟨M, 0, none⟩), .int .i64 1, .int .i64 ad, .slice (some ⟨b, off, none⟩) xs.length cap] w fun e w' => e = .returned (.int .i64 0) ∧ Mem Z tag w' M so im pv pg np first (laidT first ad xs dt xs.length) ∧ Turn tag w w' := by
  have HM := Lib.hid h
  have HC := Lib.hid hc
  have HSH := Lib.hid (shared_is h (ad := ad) (n := xs.length) hf (by omega) (by omega) ha (by omega) hlo hhi)
  have HRO := Lib.hid (room_is h 0 hnp (by omega))
  have hmx : (cap : Int) ≤ 9223372036854775807 := by unfold maxLen at hcm; omega
  clear h hc hcm
  generalize hL : xs.length = L at *
  go_enter Tryd.func18, Tryd.ntmps18
  go_upto_region 3 with (first | (go_at_call 29; refine HSH.out.mono ?_; rintro e1 w1 ⟨rfl, rfl⟩) | (go_at_call 14; refine HRO.out.mono ?_; rintro e2 w2 ⟨rfl, q, rfl⟩))
  have HM1 := Lib.hid (HM.out.keep (below_drewN (Below.refl _ _) q))
  have HT1 := Lib.hid (Turn.of_below (tag := tag) (below_drewN (Below.refl w.heap.size w) q))
  clear HM HSH HRO
  generalize w.drewN q = w1 at *
  go_wp2_with fail
  go_loopw [24] (fun kv wr => ∃ k : Nat, k ≤ L ∧ kv = .int .i64 k ∧ Hid (Mem Z tag wr M so im pv pg np first (laidT first ad xs dt k)) ∧ Hid (Turn tag w wr)) (fun kv _ => L - (intOf kv).toNat)
  case atStart => exact ⟨0, Nat.zero_le _, rfl, HM1, HT1⟩
  case round =>
    clear HM1 HT1
    obtain ⟨k, hk0, rfl, HM, HT⟩ := hrel
    by_cases hk : k < L
    · have i1 : (k : Int) < (L : Int) := by omega
      have e0 := (HT.out.cell hb htb).trans (HC.out k hk)
      have m4 := HM.out.m4
      have l1 := HM.out.one
      have y1 : IntKind.i64.wrap (ad + (k : Int)) = ad + k := IntWalk.i64_in _ (by omega)
      have q0 := tdiv16 (show 0 ≤ ad + (k : Int) by omega)
      have q1 : (ad + (k : Int)).tmod 16 = (ad + k) % 16 := Int.tmod_eq_emod_of_nonneg (by omega)
      have l2 := HM.out.at1 (k := (ad + k) / 16) hf (by omega) (by omega) (by omega)
      have hl64 : (ad + (k : Int)) / 16 < 64 := by omega
      have hl00 : 0 ≤ (ad + (k : Int)) / 16 := by omega
      have y3 : IntKind.i64.wrap ((ad + (k : Int)) / 16) = (ad + k) / 16 := IntWalk.i64_in _ (by omega)
      obtain ⟨j, hj⟩ : ∃ j : Nat, (ad + (k : Int)) % 16 = (j : Int) := ⟨((ad + (k : Int)) % 16).toNat, by omega⟩
      have hj16 : j < 16 := by omega
      have j1 : (j : Int) < 16 := by omega
      have y4 : IntKind.i64.wrap (j : Int) = (j : Int) := IntWalk.i64_in _ (by omega)
      have hi : ((ad + (k : Int)) / 16 - first).toNat < np := by omega
      have HST : Hid (laidT first ad xs dt (k + 1) = fun p => if p = ((ad + (k : Int)) / 16 - first).toNat then (fun z => if z = j then xs.getD k 0 else laidT first ad xs dt k p z) else laidT first ad xs dt k p) := Lib.hid (laidT_succ first ad xs dt k j (by omega))
      rw [hj] at q1
      generalize ((ad + (k : Int)) / 16 - first).toNat = i at *
      generalize (ad + (k : Int)) / 16 = lo at *
      have hal := Go.Joins.below_alloc1 wr (.cells #[.pointer (some ⟨pg i, 0, none⟩), .int .i64 3] 46)
      have hm2 := HM.out.keep hal
      have us := (hm2.pgs i hi).us
      have HASK := Lib.hid (ask_is hm2 hi)
      have HT2 := Lib.hid (HT.out.trans (Turn.of_below hal))
      have htz : tag wr.heap.size = 0 := HM.out.tz _ HM.out.zle
      have x0 : (wr.alloc (.cells #[.pointer (some ⟨pg i, 0, none⟩), .int .i64 3] 46)).cell? ⟨wr.heap.size, 0, none⟩ = some (.pointer (some ⟨pg i, 0, none⟩)) := cells_new wr [.pointer (some ⟨pg i, 0, none⟩), .int .i64 3] 46 0 _ rfl
      have hsz : wr.heap.size < (wr.alloc (.cells #[.pointer (some ⟨pg i, 0, none⟩), .int .i64 3] 46)).heap.size := by simp
      have HLY := Lib.hid (fun (wx : World) (hm : Mem Z tag wx M so im pv pg np first (laidT first ad xs dt k)) (x : Int) => hm.lay hi hj16 x)
      have HDC := Lib.hid (fun (wx : World) (hm : Mem Z tag wx M so im pv pg np first (laidT first ad xs dt k)) => And.intro ((hm.pgs i hi).dc j hj16) ((hm.pgs i hi).fz j))
      have HTG := Lib.hid (show ∀ wx y, Turn tag wx (wx.setCell ⟨pg i, j, none⟩ y) from fun wx y => Turn.of_grown (grown_set wx (pg i) j y) (by rw [HM.out.tpg i hi]; omega))
      clear hm2 hal hj
      generalize pg i = g at *
      generalize xs.getD k 0 = x at *
      go_upto_region 13 with (go_at_call 22; refine HASK.out.mono ?_; rintro e3 w3 ⟨rfl, hm3, ht3⟩)
      have HM3 := Lib.hid hm3
      have HT3 := Lib.hid (HT2.out.trans ht3)
      have x3 := (ht3.cell hsz htz (o := 0)).trans x0
      obtain ⟨dc, dz⟩ := HDC.out w3 hm3
      clear hm3 ht3 x0 hsz htz HDC HASK HT2 us e0
      go_wp2_with fail
      go_roundw
      case rel => exact ⟨k + 1, by omega, by go_num, Lib.hid (by rw [HST.out]; exact HLY.out _ HM3.out _), Lib.hid (HT3.out.trans (HTG.out _ _))⟩
      case measure => simp [intOf]; omega
    · obtain rfl : k = L := by omega
      go_wp2_with fail
      go_ret
      exact ⟨rfl, HM.out, HT.out⟩
end
end Go.Proofs.YtopadiofanaaiaaDoor
