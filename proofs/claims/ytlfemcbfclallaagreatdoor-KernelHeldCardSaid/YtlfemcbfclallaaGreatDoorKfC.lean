/- A kernel that has begun: the state of its file system. The kernel with its file system as one state; the walks of kernel.may and kernel.last. The walks of kernel.walk at "f". The walks of kernel.opened. -/
import Derived.Test.YtlfemcbfclallaaGreatDoorStart2
import Derived.Test.YtlfemcbfclallaaGreatDoorPathA
import Derived.Test.YtlfemcbfclallaaGreatDoorFsA
import Derived.Test.YtlfemcbfclallaaGreatDoorPathF
namespace Go.Proofs.YtlfemcbfclallaaGreatDoor
open Go.RowKit Go.Maps
set_option linter.unusedVariables false
set_option linter.unusedSimpArgs false
def ndI (i : Nat) : Nd := ⟨kk i, mm i, 0, 0, 0, ll i, ll i, .slice none 0 0, []⟩
theorem ndI_z {i : Nat} (h : 1 ≤ i) : ndI i = nd0 := by
  unfold ndI kk mm ll
  rw [if_neg (by omega), if_neg (by omega), if_neg (by omega)]
  rfl
theorem CMap.of_heap {ι : Type} {c : MCode ι} {w : World} {b : Nat} (h : w.heap[b]? = some (.map #[] 0)) : CMap c w b 0 (fun _ => none) :=
  ⟨_, ⟨#[], 0, h, ⟨by simp, Go.MapKept.stamped_empty 0, by simp⟩, Nat.le_refl _, rfl⟩, isMap_empty, fun k => ⟨c.d0.symm, rfl⟩⟩
theorem lone_gF : Lone1 gF := ⟨by decide, gF_zero (by decide), gF_zero (by decide), gF_zero (by decide), gF_lt⟩
theorem fst_gF : Fst gF 53 := ⟨by decide, by decide, by decide, fun i h1 h2 => by
  have : i = 37 ∨ i = 38 ∨ i = 39 ∨ i = 40 ∨ i = 41 ∨ i = 42 ∨ i = 43 ∨ i = 44 ∨ i = 45 ∨ i = 46 ∨ i = 47 ∨ i = 48 ∨ i = 49 ∨ i = 50 ∨ i = 51 ∨ i = 52 := by omega
  rcases this with rfl | rfl | rfl | rfl | rfl | rfl | rfl | rfl | rfl | rfl | rfl | rfl | rfl | rfl | rfl | rfl <;> decide⟩
theorem free_gF : Free gF 53 8 := ⟨by decide, by decide, fun j hj => by
  have : j = 0 ∨ j = 1 ∨ j = 2 ∨ j = 3 ∨ j = 4 ∨ j = 5 ∨ j = 6 ∨ j = 7 := by omega
  rcases this with rfl | rfl | rfl | rfl | rfl | rfl | rfl | rfl <;> decide, fst_gF.al⟩
def fm0 (N cap a b D sb nb : Nat) (F L m : Nat) (s f : List Int) : FM := ⟨gF, N, cap, ndI, a, 0, fun _ => none, fun _ => [], 0, fun _ => none, 0, .slice none 0 0, m, s, f, fun j => j = F ∨ j = L ∨ j = a ∨ j = b ∨ j = N ∨ j = D ∨ j = sb ∨ j = nb⟩
theorem FSy.toFSt {w : World} {B F D L a sb nb m : Nat} {s f : List Int} (h : FSy w B F D L a) (hd : Dk w D sb nb (.slice none 0 0) m 256 s f) (hB : D < B ∧ sb < B ∧ nb < B) : ∃ c x, c.F = F ∧ c.D = D ∧ FSt w c x ∧ Root0 x 53 ∧ x.na = 0 ∧ x.nh = 0 ∧ (∀ n, x.held n = none) ∧ ∀ j, x.bs j → (B ≤ j ∧ j ≤ F) ∨ j = D ∨ j = sb ∨ j = nb := by
  have lt : ∀ {k o}, w.heap[k]? = some o → k < w.heap.size := fun h => (Array.getElem?_eq_some_iff.1 h).1
  obtain ⟨p, cap, b, h1, h2, h3, h4, h5, h6, h7⟩ := h.x
  obtain ⟨N, cap', C, e, hN, hc1, hc2, hnb⟩ := NB.of_own (nd := ndI) (show w.ownsRow B 120 8 (.slice p 32 cap) 32 (ndsC ndI 32) from h2)
  injection e with e1 _ e2
  subst e1
  subst e2
  have hNa := h7 N rfl
  have hL := h.o.l0
  have hNL : N ≠ L := fun e => by
    have r1 := hnb.row
    rw [e] at r1
    have r2 := r1.symm.trans h.o.l
    injection r2 with r2
    injection r2 with _ r3
    exact absurd r3 (by decide)
  refine ⟨⟨F, D, L, b, sb, nb⟩, fm0 N cap a b D sb nb F L m s f, rfl, rfl, ?_, ?_, rfl, rfl, fun n => rfl, ?_⟩
  · have hm : ∀ j, fMut ⟨F, D, L, b, sb, nb⟩ (fm0 N cap a b D sb nb F L m s f) j → j = F ∨ j = a ∨ j = b ∨ j = L ∨ j = D ∨ j = sb ∨ j = nb := by
      rintro j (e | e | e | e | e | e | e | e)
      · exact .inl e
      · exact .inr (.inl e)
      · exact .inr (.inr (.inl e))
      · exact .inr (.inr (.inr (.inl e)))
      · exact .inr (.inr (.inr (.inr (.inl e))))
      · exact .inr (.inr (.inr (.inr (.inr (.inl e)))))
      · exact .inr (.inr (.inr (.inr (.inr (.inr e)))))
      · cases e
    have hD : ∀ j, fDk ⟨F, D, L, b, sb, nb⟩ (fm0 N cap a b D sb nb F L m s f) j → j = D ∨ j = sb ∨ j = nb := by
      rintro j (e | e | e | e)
      · exact .inl e
      · exact .inr (.inl e)
      · exact .inr (.inr e)
      · cases e
    refine ⟨h1, lone_gF, gF_fr, h.o.l, ⟨C, hnb⟩, ⟨hc1, hc2⟩, fun i hi => ⟨⟨⟨none, 0, rfl, Nat.le_refl _, Nat.zero_le _, .inl rfl⟩, fun j e => (by cases e), fun j e => (by cases e)⟩, fun j e => (by cases e)⟩, CMap.of_heap h.o.m, fun p s e => (by cases e), CMap.of_heap h3, hd, fun e => ?_, ?_, ?_, fun j e => ?_, ?_, fun j e => ?_⟩
    · have := hm _ e
      have e : (fm0 N cap a b D sb nb F L m s f).N = N := rfl
      rw [e] at this
      omega
    · refine ⟨?_, ?_, ?_, ?_, ?_, ?_⟩
      · show F ≠ a; omega
      · show F ≠ b; omega
      · show F ≠ L; omega
      · show a ≠ b; omega
      · show a ≠ L; omega
      · show b ≠ L; omega
    · refine ⟨fun e => ?_, fun e => ?_, fun e => ?_, fun e => ?_⟩
      · have : F = D ∨ F = sb ∨ F = nb := hD _ e
        omega
      · have : a = D ∨ a = sb ∨ a = nb := hD _ e
        omega
      · have : b = D ∨ b = sb ∨ b = nb := hD _ e
        omega
      · have : L = D ∨ L = sb ∨ L = nb := hD _ e
        omega
    · show j = F ∨ j = L ∨ j = a ∨ j = b ∨ j = N ∨ j = D ∨ j = sb ∨ j = nb
      have := hm j e
      omega
    · show N = F ∨ N = L ∨ N = a ∨ N = b ∨ N = N ∨ N = D ∨ N = sb ∨ N = nb
      omega
    · have e : j = F ∨ j = L ∨ j = a ∨ j = b ∨ j = N ∨ j = D ∨ j = sb ∨ j = nb := e
      have := lt h1
      have := hd.lt
      have := hd.sB.lt
      have := hd.nB.lt
      omega
  · refine ⟨rfl, rfl, rfl, rfl, rfl, rfl, rfl, rfl, fun i h1 _ => ndI_z h1, fun k hk => ?_, fst_gF, free_gF⟩
    show 37 ≤ gF k ∧ gF k < 256 ∧ hasB (hasT gF) (gF k) = true
    have hk : k = 0 ∨ k = 1 ∨ k = 2 ∨ k = 3 ∨ k = 4 ∨ k = 5 ∨ k = 6 ∨ k = 7 ∨ k = 8 ∨ k = 9 ∨ k = 10 ∨ k = 11 ∨ k = 12 ∨ k = 13 ∨ k = 14 ∨ k = 15 := by omega
    rcases hk with rfl | rfl | rfl | rfl | rfl | rfl | rfl | rfl | rfl | rfl | rfl | rfl | rfl | rfl | rfl | rfl <;> decide
  · intro j e
    have e : j = F ∨ j = L ∨ j = a ∨ j = b ∨ j = N ∨ j = D ∨ j = sb ∨ j = nb := e
    omega
set_option maxRecDepth 100000 in
set_option maxHeartbeats 400000 in
theorem started2_is (w : World) : Calls Tryz.prog 4 #[] w fun e w' => ∃ K D B P Wh Fi Pr R M so sp c, e = .returned (.tuple #[.pointer (some ⟨K, 0, none⟩), .pointer (some ⟨D, 0, none⟩), .bool true]) ∧ KS w' B K P Wh Fi Pr R M so sp c ∧ (∃ k x, c 2 = .pointer (some ⟨k.F, 0, none⟩) ∧ FSt w' k x ∧ Root0 x 53 ∧ x.na = 0 ∧ x.nh = 0 ∧ (∀ n, x.held n = none) ∧ ∀ j, x.bs j → w.heap.size ≤ j ∧ (M < j ∧ j < sp ∨ j < B)) ∧ w.heap.size ≤ B ∧ Below w.heap.size w w' := by
  have HM := Lib.hid (make_is w)
  go_enter Tryz.func4, Tryz.ntmps4
  go_upto_region 4 with (go_at_call 11; refine HM.out.mono ?_; rintro e1 w1 ⟨D, sb, nb, rfl, hd1, l1, l2, l3, hb1⟩)
  have HS := Lib.hid (start2_is hd1 fmt_is.1)
  have HB1 := Lib.hid hb1
  have HD1 := Lib.hid (And.intro hd1 (And.intro l1 (And.intro l2 l3)))
  clear hd1 l1 l2 l3 hb1 HM
  go_wp2_with (go_at_call 12; refine HS.out.mono ?_; rintro e2 w2 ⟨K, P, Wh, Fi, Pr, R, M, so, sp, c, rfl, hk2, hx2, hb2⟩; have HK2 := Lib.hid hk2; have HX2 := Lib.hid hx2; have HB2 := Lib.hid hb2; clear hk2 hx2 hb2)
  go_ret3
  obtain ⟨hd1, l1, l2, l3⟩ := HD1.out
  obtain ⟨B0, F, L, a, hc2, hy, hM, hF⟩ := HX2.out
  have hd2 := hd1.keep HB2.out
  have q1 := hd1.lt
  have q2 := hd1.sB.lt
  have q3 := hd1.nB.lt
  have o := HK2.out.or
  have ob := HK2.out.kp.b
  obtain ⟨k, x, rfl, -, hst, hr, n1, n2, n3, n4⟩ := hy.toFSt hd2 (by omega)
  refine ⟨K, D, _, _, _, _, _, _, _, _, _, c, rfl, HK2.out, ⟨k, x, hc2, hst, hr, n1, n2, n3, fun j e => ?_⟩, HB1.out.size, HB1.out.trans (HB2.out.mono HB1.out.size)⟩
  have := n4 j e
  have := HB1.out.size
  omega
end Go.Proofs.YtlfemcbfclallaaGreatDoor
namespace Go.Proofs.YtlfemcbfclallaaGreatDoor
open Go.RowKit Go.Maps
set_option linter.unusedVariables false
set_option linter.unusedSimpArgs false
structure KF (w : World) (k : KC) (s : KSt) (fc : FC) (x : FM) : Prop where
  kt : KT w k s
  c2 : s.c 2 = .pointer (some ⟨fc.F, 0, none⟩)
  fs : FSt w fc x
  sep : ∀ j, x.bs j → s.tag j = 0
theorem KF.keep {w w' : World} {k : KC} {s : KSt} {fc : FC} {x : FM} (h : KF w k s fc x) (hb : Below w.heap.size w w') : KF w' k s fc x := ⟨h.kt.keep hb, h.c2, h.fs.keep hb, h.sep⟩
structure Who (w : World) (s : KSt) (p : Nat) (U K : Int) (a : Option Addr) (cap gc cc : Nat) : Prop where
  p16 : p ≤ 16
  cr : ∀ i, i < 6 → (crA U K a cap)[i]? = some (s.c (8 + p * 38 + 11 + i))
  wd : s.c (8 + p * 38 + 17) = .slice (some ⟨gc, 0, none⟩) 1 cc
  mt : s.c (8 + p * 38 + 18) = .slice none 0 0
  g : w.cell? ⟨gc, 0, none⟩ = some (.int .i64 1)
  hc : cap ≤ maxLen
  c1 : 1 ≤ cc
  c2 : cc ≤ maxLen
  hU : 0 ≤ U ∧ U ≤ 99
  hK : 0 ≤ K ∧ K ≤ 127
theorem Who.keep {w w' : World} {s : KSt} {p : Nat} {U K : Int} {a : Option Addr} {cap gc cc : Nat} (h : Who w s p U K a cap gc cc) (hb : Below w.heap.size w w') : Who w' s p U K a cap gc cc := ⟨h.p16, h.cr, h.wd, h.mt, (hb.cell (p := ⟨gc, 0, none⟩) (World.block_lt_of_cell? w _ h.g)).trans h.g, h.hc, h.c1, h.c2, h.hU, h.hK⟩
theorem cred_cells {c : Nat → Value} {o : Nat} (ho : o + 6 ≤ 655) {A : Array Value} (hA : A.size = 6) (h : ∀ i, i < 6 → A[i]? = some (c (o + i))) : (kerA c).extract o (o + 6) = A := by
  apply Array.ext_getElem?
  intro i
  rw [Array.getElem?_extract]
  by_cases hi : i < 6
  · rw [if_pos (by rw [kerA_size]; omega), h i hi]
    simp only [kerA]
    rw [Array.getElem?_ofFn, dif_pos (by omega)]
  · rw [if_neg (by rw [kerA_size]; omega), Array.getElem?_eq_none (by omega)]
section
variable {w : World} {k : KC} {s : KSt} {fc : FC} {x : FM} {p : Nat} {U K : Int} {a : Option Addr} {cap gc cc : Nat}
theorem KF.ldcr (h : KF w k s fc x) (q : Who w s p U K a cap gc cc) : (ldR 55 (.pointer (some ⟨k.K, 8 + p * 38 + 11, none⟩))).run Tryz.prog w = .ok (.agg (crA U K a cap)) w := by
  have := q.p16
  rw [Row.ld h.kt.kr (o := 8 + p * 38 + 11) (n := 6) (by rw [kerA_size]; omega) Tryz.underlying55 rfl (by kernel_rfl), cred_cells (by omega) rfl q.cr]
theorem KF.fsp (h : KF w k s fc x) : w.cell? ⟨k.K, 2, none⟩ = some (.pointer (some ⟨fc.F, 0, none⟩)) := by rw [h.kt.kr.cell (by decide), h.c2]
attribute [local go_sem ↓] ld_sta st_sta ld_crd
attribute [local go_sem] stS_new
set_option maxRecDepth 100000 in
set_option maxHeartbeats 800000 in
theorem kmay_is (h : KF w k s fc x) (q : Who w s p U K a cap gc cc) {i : Nat} (hi : i < 32) {n : Int} (hn : n = i + 1) (hk : ¬ (x.nd i).k = 0) {W : Int} {ok : Bool}
    (hM : ∀ w, Calls Tryz.prog 169 #[.agg (stA (x.nd i)), .agg (crA U K a cap), .int .i64 W] w fun e w' => e = .returned (.tuple #[.bool ok, .int .i64 0]) ∧ Below w.heap.size w w') :
    Calls Tryz.prog 93 #[.pointer (some ⟨k.K, 0, none⟩), .int .i64 p, .int .i64 n, .int .i64 W] w fun e w' => e = .returned (.int .i64 (bif ok then 0 else 7)) ∧ Below w.heap.size w w' := by
  have c2 := h.fsp
  have HST := Lib.hid (statF_is h.fs hi hn hk)
  have HLC := Lib.hid (fun wx (hb : Below w.heap.size w wx) => (h.keep hb).ldcr (q.keep hb))
  have HM := Lib.hid hM
  have i17 : (p : Int) < 17 := by have := q.p16; omega
  clear h q hM hi hn hk
  generalize x.nd i = nd at *
  cases ok
  all_goals
    dsimp only [cond_true, cond_false]
    go_enter Tryz.func93, Tryz.ntmps93
    go_upto_region 2 with (go_at_call 160; (with_reducible refine HST.out.mono ?_); rintro e1 w1 ⟨rfl, hb1⟩)
    have HB2 := Lib.hid (hb1.alloc hb1.size (.cells (stA nd) 32))
    have HR2 := Lib.hid (row_new w1 32 (stA nd))
    clear hb1 c2
    generalize hb9 : w1.heap.size = b9 at *
    generalize w1.alloc (.cells (stA nd) 32) = w2 at *
    clear hb9
    have HL : Hid (∀ wx, Below w2.heap.size w2 wx → ((ldR 32 (.pointer (some ⟨b9, 0, none⟩))).run Tryz.prog wx = .ok (.agg (stA nd)) wx ∧ (ldR 55 (.pointer (some ⟨k.K, 8 + p * 38 + 11, none⟩))).run Tryz.prog wx = .ok (.agg (crA U K a cap)) wx)) := Lib.hid (fun wx hb => ⟨(HR2.out.keep hb).ld0 Tryz.underlying32 rfl (by unfold stA; kernel_rfl), HLC.out _ (HB2.out.trans (hb.mono HB2.out.size))⟩)
    go_upto_region 4 with fail
    go_region_held3 (fun wx => (ldR 32 (.pointer (some ⟨b9, 0, none⟩))).run Tryz.prog wx = .ok (.agg (stA nd)) wx ∧ (ldR 55 (.pointer (some ⟨k.K, 8 + p * 38 + 11, none⟩))).run Tryz.prog wx = .ok (.agg (crA U K a cap)) wx) (first | (with_reducible exact HL.out _ (Below.refl _ _)) | (with_reducible exact HL.out _ (Below.refl _ _).drew) | (with_reducible exact HL.out _ HB3.out) | fail)
          (first | (go_at_call 169; (with_reducible refine (HM.out _).mono ?_); rintro e3 w3 ⟨rfl, hb3⟩; have HB3 := Lib.hid ((Below.refl w2.heap.size w2).drew.trans hb3); clear hb3) | fail)
    go_wp2_with fail
    go_ret
    exact ⟨rfl, HB2.out.trans (HB3.out.mono HB2.out.size)⟩
set_option maxRecDepth 100000 in
set_option maxHeartbeats 800000 in
theorem klast_is (h : KF w k s fc x) (q : Who w s p U K a cap gc cc) (hk : (x.nd 0).k = 2)
    (hM : ∀ w, Calls Tryz.prog 169 #[.agg (stA (x.nd 0)), .agg (crA U K a cap), .int .i64 4] w fun e w' => e = .returned (.tuple #[.bool true, .int .i64 0]) ∧ Below w.heap.size w w')
    (hM2 : ∀ w, Calls Tryz.prog 169 #[.agg (stA (x.nd 0)), .agg (crA U K a cap), .int .i64 2] w fun e w' => e = .returned (.tuple #[.bool true, .int .i64 0]) ∧ Below w.heap.size w w') :
    Calls Tryz.prog 162 #[.pointer (some ⟨k.K, 0, none⟩), .int .i64 p, .string ⟨#[102]⟩] w fun e w' => e = .returned (.tuple #[.int .i64 1, .string ⟨#[102]⟩, .int .i64 0]) ∧ Below w.heap.size w w' := by
  have HPL := Lib.hid (fun wx (hb : Below w.heap.size w wx) => pLast_is (h.keep hb).fs hk q.hU q.hK q.hc (q.keep hb).g q.c1 q.c2 hM)
  have HMY := Lib.hid (fun wx (hb : Below w.heap.size w wx) => kmay_is (h.keep hb) (q.keep hb) (i := 0) (by decide) (n := 1) rfl (by rw [hk]; decide) hM2)
  have HL : Hid (∀ wx, Below w.heap.size w wx → (wx.cell? ⟨k.K, 2, none⟩ = some (.pointer (some ⟨fc.F, 0, none⟩)) ∧ wx.cell? ⟨k.K, 8 + p * 38 + 18, none⟩ = some (.slice none 0 0) ∧ (ldR 55 (.pointer (some ⟨k.K, 8 + p * 38 + 11, none⟩))).run Tryz.prog wx = .ok (.agg (crA U K a cap)) wx ∧ wx.cell? ⟨k.K, 8 + p * 38 + 17, none⟩ = some (.slice (some ⟨gc, 0, none⟩) 1 cc))) := Lib.hid (fun wx hb => ⟨(h.keep hb).fsp, by rw [(h.keep hb).kt.kr.cell (by have := q.p16; omega), q.mt], (h.keep hb).ldcr (q.keep hb), by rw [(h.keep hb).kt.kr.cell (by have := q.p16; omega), q.wd]⟩)
  have i17 : (p : Int) < 17 := by have := q.p16; omega
  clear h q hM hM2 hk
  go_enter Tryz.func162, Tryz.ntmps162
  go_upto_region 2 with fail
  go_region_held3 (fun wx => wx.cell? ⟨k.K, 2, none⟩ = some (.pointer (some ⟨fc.F, 0, none⟩)) ∧ wx.cell? ⟨k.K, 8 + p * 38 + 18, none⟩ = some (.slice none 0 0) ∧ (ldR 55 (.pointer (some ⟨k.K, 8 + p * 38 + 11, none⟩))).run Tryz.prog wx = .ok (.agg (crA U K a cap)) wx ∧ wx.cell? ⟨k.K, 8 + p * 38 + 17, none⟩ = some (.slice (some ⟨gc, 0, none⟩) 1 cc)) (first | (with_reducible exact HL.out _ (Below.refl _ _)) | (with_reducible exact HL.out _ (Below.refl _ _).drew) | (with_reducible exact HL.out _ HB1.out) | fail)
          (first | (go_at_call 232; (with_reducible refine (HPL.out _ (Below.refl _ _).drew).mono ?_); rintro e1 w1 ⟨g1, c1, rfl, y1, q1, q2, hb1⟩; have HB1 := Lib.hid ((Below.refl w.heap.size w).drew.trans hb1); clear hb1) | fail)
  have HM1 := Lib.hid (HMY.out _ HB1.out)
  have hmx : (c1 : Int) ≤ 9223372036854775807 := by unfold maxLen at q2; omega
  clear HMY HPL HL q2
  go_wp2_with (go_at_call 93; (with_reducible refine HM1.out.mono ?_); rintro e2 w2 ⟨rfl, hb2⟩)
  go_ret3
  exact ⟨rfl, HB1.out.trans (hb2.mono HB1.out.size)⟩
end
end Go.Proofs.YtlfemcbfclallaaGreatDoor
namespace Go.Proofs.YtlfemcbfclallaaGreatDoor
open Go.RowKit Go.Maps
set_option linter.unusedVariables false
set_option linter.unusedSimpArgs false
theorem results_tct {fn : Func} {t p u : Tmp} {ty : TypeId} (h : fn.results = #[.tmp t, .cell p ty, .tmp u]) (tmps : Array Value) (P : Program) (w : World) :
    (results fn tmps).run P w = ((asAddr (tmps.getD p undef)).run P w).andThen fun a w1 => ((loadVar ty a).run P w1).andThen fun v w2 => .ok (.tuple #[tmps.getD t undef, v, tmps.getD u undef]) w2 := by
  unfold results
  rw [h]
  simp
theorem bd_sta (ps : Array (Nat × Value)) : Instr.build 32 ps = bdR 32 ps := rfl
theorem bd_sta_run (w : World) : (bdR 32 #[]).run Tryz.prog w = .ok (.agg (stA nd0)) w := by kernel_rfl
theorem Row.stS' {w : World} {b : Nat} {n n' : Nd} (h : Row w b 32 (stA n)) : (stR 32 (.pointer (some ⟨b, 0, none⟩)) (.agg (stA n'))).run Tryz.prog w = .ok () (w.setRow b (stA n')) := h.st0 rfl (by kernel_rfl) (by simp [stA, Value.oneCell'])
theorem Row.ldVS {w : World} {b : Nat} {n : Nd} (h : Row w b 32 (stA n)) : (loadVar 32 ⟨b, 0, none⟩).run Tryz.prog w = .ok (.agg (stA n)) w := h.ldV Tryz.underlying32 rfl (by unfold stA; kernel_rfl)
section
variable {w : World} {k : KC} {s : KSt} {fc : FC} {x : FM} {p : Nat} {U K : Int} {a : Option Addr} {cap gc cc : Nat}
attribute [local go_sem ↓] ld_sta st_sta ld_crd bd_sta
attribute [local go_sem] stS_new
set_option maxRecDepth 100000 in
set_option maxHeartbeats 800000 in
theorem kwalkN_is (h : KF w k s fc x) (q : Who w s p U K a cap gc cc) (hk : (x.nd 0).k = 2) (hp : (x.nd 0).ps = []) (hs : (x.nd 0).sz = 0)
    (hM : ∀ w, Calls Tryz.prog 169 #[.agg (stA (x.nd 0)), .agg (crA U K a cap), .int .i64 4] w fun e w' => e = .returned (.tuple #[.bool true, .int .i64 0]) ∧ Below w.heap.size w w') :
    Calls Tryz.prog 87 #[.pointer (some ⟨k.K, 0, none⟩), .int .i64 p, .string ⟨#[102]⟩] w fun e w' => e = .returned (.tuple #[.slice none 0 0, .agg (stA nd0), .int .i64 4]) ∧ Below w.heap.size w w' := by
  have HB0 := Lib.hid (Go.Joins.below_alloc1 w (.cells #[.int .i64 0, .int .i64 0, .int .i64 0, .int .i64 0, .int .i64 0, .int .i64 0] 32))
  have HR0 : Hid (Row (w.alloc (.cells #[.int .i64 0, .int .i64 0, .int .i64 0, .int .i64 0, .int .i64 0, .int .i64 0] 32)) w.heap.size 32 (stA nd0)) := Lib.hid (row_new w 32 (stA nd0))
  have HPW := Lib.hid (fun wx (hb : Below w.heap.size w wx) => pWalkN_is (h.keep hb).fs hk hp hs q.hU q.hK q.hc (q.keep hb).g q.c1 q.c2 hM)
  have HL : Hid (∀ wx, Below w.heap.size w wx → (wx.cell? ⟨k.K, 2, none⟩ = some (.pointer (some ⟨fc.F, 0, none⟩)) ∧ wx.cell? ⟨k.K, 8 + p * 38 + 18, none⟩ = some (.slice none 0 0) ∧ (ldR 55 (.pointer (some ⟨k.K, 8 + p * 38 + 11, none⟩))).run Tryz.prog wx = .ok (.agg (crA U K a cap)) wx ∧ wx.cell? ⟨k.K, 8 + p * 38 + 17, none⟩ = some (.slice (some ⟨gc, 0, none⟩) 1 cc))) := Lib.hid (fun wx hb => ⟨(h.keep hb).fsp, by rw [(h.keep hb).kt.kr.cell (by have := q.p16; omega), q.mt], (h.keep hb).ldcr (q.keep hb), by rw [(h.keep hb).kt.kr.cell (by have := q.p16; omega), q.wd]⟩)
  have i17 : (p : Int) < 17 := by have := q.p16; omega
  clear h q hM hk hp hs
  go_enter Tryz.func87, Tryz.ntmps87
  go_upto_region 2 with fail
  generalize w.alloc (.cells #[.int .i64 0, .int .i64 0, .int .i64 0, .int .i64 0, .int .i64 0, .int .i64 0] 32) = w0 at *
  go_region_held3 (fun wx => wx.cell? ⟨k.K, 2, none⟩ = some (.pointer (some ⟨fc.F, 0, none⟩)) ∧ wx.cell? ⟨k.K, 8 + p * 38 + 18, none⟩ = some (.slice none 0 0) ∧ (ldR 55 (.pointer (some ⟨k.K, 8 + p * 38 + 11, none⟩))).run Tryz.prog wx = .ok (.agg (crA U K a cap)) wx ∧ wx.cell? ⟨k.K, 8 + p * 38 + 17, none⟩ = some (.slice (some ⟨gc, 0, none⟩) 1 cc)) (first | (with_reducible exact HL.out _ HB0.out) | (with_reducible exact HL.out _ HB0.out.drew) | (with_reducible exact HL.out _ HB1.out) | fail)
          (first | (go_at_call 168; (with_reducible refine (HPW.out _ HB0.out.drew).mono ?_); rintro e1 w1 ⟨rfl, hb1⟩; have HB1 := Lib.hid (HB0.out.drew.trans (hb1.mono HB0.out.drew.size)); have HR1 := Lib.hid (HR0.out.drew.keep hb1); clear hb1) | fail)
  have st1 := Row.stS' (n' := nd0) HR1.out
  have lv1 := (HR1.out.setRow (stA nd0)).ldVS
  have hbd := bd_sta_run
  clear HPW HL
  generalize hZ : stA nd0 = Z at hbd st1 lv1 ⊢
  have HZ := Lib.hid hZ
  clear hZ
  go_wp2_with fail
  exact bodyPost_ret (v := .tuple #[.slice none 0 0, .agg Z, .int .i64 4]) (by rw [results_tct rfl]; simp [asAddr, Result.andThen, lv1]) rfl ⟨by rw [HZ.out], HB1.out.trans ((Upd.setRow (S := fun j => j = w.heap.size) w1 Z rfl).toBelow HB1.out.size (fun k hk e => by have e : k = w.heap.size := e; omega))⟩
end
end Go.Proofs.YtlfemcbfclallaaGreatDoor
namespace Go.Proofs.YtlfemcbfclallaaGreatDoor
open Go.RowKit Go.Maps
set_option linter.unusedVariables false
set_option linter.unusedSimpArgs false
structure FileX (x : FM) (q : Nat) : Prop where
  nz : ∀ i, 2 ≤ i → i < 32 → x.nd i = nd0
  G : ∀ k, k < 16 → 37 ≤ x.G k ∧ x.G k < 256 ∧ hasB (hasT x.G) (x.G k) = true
  free : Free x.G (q + 1) 7
  na : x.na ≤ 8
  l0 : (x.nd 0).l = 1 ∧ (x.nd 0).up = 1
  Gq : ∀ k, k < 16 → x.G k ≠ q
structure FileF (x : FM) (q : Nat) (m : Int) : Prop where
  k : (x.nd 0).k = 2
  m0 : (x.nd 0).m = 493
  u : (x.nd 0).u = 0
  g : (x.nd 0).g = 0
  ps : (x.nd 0).ps = [(q : Int)]
  sz : (x.nd 0).sz = 16
  q0 : q ≠ 0
  q1 : q < 256
  sec : (fsec x q).take 16 = entL
  n1 : ∃ pv, x.nd 1 = ⟨1, m, 0, 0, 0, 1, 0, pv, []⟩
  x : FileX x q
theorem MadeF.file {w w' : World} {c : FC} {x x' : FM} {q : Nat} {m : Int} (h : MadeF w w' c x q m 0 0 x') (hr : Root0 x q) (hna : x.na ≤ 2) : FileF x' q m := by
  obtain ⟨pv, e⟩ := h.r0
  refine ⟨?_, ?_, ?_, ?_, ?_, ?_, ?_, hr.fst.hi, ?_, h.r1, ?_⟩
  · rw [e]; exact hr.k
  · rw [e]; exact hr.m
  · rw [e]; exact hr.u
  · rw [e]; exact hr.g
  · rw [e]
  · rw [e]
  · have := hr.fst.lo; omega
  · rw [h.sec]; rfl
  · refine ⟨fun i h1 h2 => (h.rz i h1).trans (hr.z i (by omega) h2), fun k hk => ?_, by rw [h.G]; exact hr.free.on, by have := h.na; omega, by rw [e]; exact ⟨hr.l, hr.up⟩, fun k hk e1 => ?_⟩
    · obtain ⟨h1, h2, h3⟩ := hr.G k hk
      have hk0 : x'.G k = x.G k := by rw [h.G]; exact gOn_off q (by omega)
      rw [hk0, h.G, hasB_gOn _ _ h2, h3]
      exact ⟨h1, h2, rfl⟩
    · obtain ⟨h1, h2, h3⟩ := hr.G k hk
      have hk0 : x'.G k = x.G k := by rw [h.G]; exact gOn_off q (by omega)
      rw [hk0] at e1
      rw [e1, hr.fst.no] at h3
      cases h3
section
variable {w : World} {k : KC} {s : KSt} {fc : FC} {x : FM} {p : Nat} {U K : Int} {a : Option Addr} {cap gc cc : Nat}
attribute [local go_sem ↓] ld_sta st_sta
attribute [local go_sem] stS_new
set_option maxRecDepth 100000 in
set_option maxHeartbeats 1000000 in
theorem openedN_is (h : KF w k s fc x) (q : Who w s p 0 127 a cap gc cc) {q0 : Nat} (hr : Root0 x q0) (hna : x.na ≤ 2) {m : Int} (hm : 0 ≤ m ∧ m ≤ 511) {A : Array Value} (hA2 : A[2]? = some (.int .i64 1)) (hA3 : A[3]? = some (.int .i64 m)) (hA4 : A[4]? = some (.string ⟨#[102]⟩))
    (hM : ∀ w, Calls Tryz.prog 169 #[.agg (stA (x.nd 0)), .agg (crA 0 127 a cap), .int .i64 4] w fun e w' => e = .returned (.tuple #[.bool true, .int .i64 0]) ∧ Below w.heap.size w w')
    (hM2 : ∀ w, Calls Tryz.prog 169 #[.agg (stA (x.nd 0)), .agg (crA 0 127 a cap), .int .i64 2] w fun e w' => e = .returned (.tuple #[.bool true, .int .i64 0]) ∧ Below w.heap.size w w') :
    Calls Tryz.prog 152 #[.pointer (some ⟨k.K, 0, none⟩), .int .i64 p, .agg A] w fun e w' => e = .returned (.tuple #[.int .i64 2, .int .i64 0]) ∧ ∃ x', KF w' k s fc x' ∧ FileF x' q0 m ∧ x'.held = x.held ∧ x'.nh = x.nh ∧ Upd x.bs w w' ∧ ∀ j, x'.bs j → x.bs j ∨ w.heap.size ≤ j := by
  have hb1 := Go.Joins.below_alloc1 w (.cells A 37)
  have hr1 := row_new w 37 A
  have d4 : (w.alloc (.cells A 37)).cell? ⟨w.heap.size, 4, none⟩ = some (.string ⟨#[102]⟩) := (hr1.cell 4).trans hA4
  have hz : ∀ j, x.bs j → j < w.heap.size := h.fs.lt
  have hF : x.bs fc.F := h.fs.bm _ (.inl rfl)
  have ha : x.bs x.a := h.fs.bm _ (.inr (.inl rfl))
  have hK0 : s.tag k.K ≠ 0 := by rw [h.kt.tK]; decide
  have HW := Lib.hid (kwalkN_is (h.keep hb1) (q.keep hb1) hr.k hr.ps hr.sz hM)
  have HLS := Lib.hid (fun wx (hb : Below w.heap.size w wx) => klast_is (h.keep hb) (q.keep hb) hr.k hM hM2)
  have HMK := Lib.hid (fun wx (hb : Below w.heap.size w wx) => make0_is (h.keep hb).fs hr (by omega) hm (u := 0) (g := 0) (by decide) (by decide))
  have hc11 : ∀ wx, Below w.heap.size w wx → wx.cell? ⟨k.K, 8 + p * 38 + 11, none⟩ = some (.int .i64 0) ∧ wx.cell? ⟨k.K, 8 + p * 38 + 12, none⟩ = some (.int .i64 0) := fun wx hb => by
    have := q.p16
    refine ⟨?_, ?_⟩
    · rw [(h.keep hb).kt.kr.cell (by omega)]; exact (q.cr 0 (by decide)).symm
    · rw [(h.keep hb).kt.kr.cell (by omega)]; exact (q.cr 1 (by decide)).symm
  have HS : Hid (∀ wx, Below (w.alloc (.cells A 37)).heap.size (w.alloc (.cells A 37)) wx → (wx.cell? ⟨k.K, 2, none⟩ = some (.pointer (some ⟨fc.F, 0, none⟩)) ∧ wx.cell? ⟨w.heap.size, 3, none⟩ = some (.int .i64 m) ∧ wx.cell? ⟨k.K, 8 + p * 38 + 11, none⟩ = some (.int .i64 0) ∧ wx.cell? ⟨k.K, 8 + p * 38 + 12, none⟩ = some (.int .i64 0) ∧ wx.cell? ⟨k.K, 8 + p * 38 + 11 + 1, none⟩ = some (.int .i64 0) ∧ wx.cell? ⟨w.heap.size, 4, none⟩ = some (.string ⟨#[102]⟩) ∧ wx.cell? ⟨w.heap.size, 2, none⟩ = some (.int .i64 1))) := Lib.hid (fun wx hb => by
    have hbw := hb1.trans (hb.mono hb1.size)
    exact ⟨(h.keep hbw).fsp, ((hr1.keep hb).cell 3).trans hA3, (hc11 wx hbw).1, (hc11 wx hbw).2, (hc11 wx hbw).2, ((hr1.keep hb).cell 4).trans hA4, ((hr1.keep hb).cell 2).trans hA2⟩)
  have HS2 : Hid (∀ wx w', Below (w.alloc (.cells A 37)).heap.size (w.alloc (.cells A 37)) wx → Upd (fun j => j = fc.F ∨ j = x.a) wx w' → (w'.cell? ⟨k.K, 2, none⟩ = some (.pointer (some ⟨fc.F, 0, none⟩)) ∧ w'.cell? ⟨w.heap.size, 3, none⟩ = some (.int .i64 m) ∧ w'.cell? ⟨k.K, 8 + p * 38 + 11, none⟩ = some (.int .i64 0) ∧ w'.cell? ⟨k.K, 8 + p * 38 + 12, none⟩ = some (.int .i64 0) ∧ w'.cell? ⟨k.K, 8 + p * 38 + 11 + 1, none⟩ = some (.int .i64 0) ∧ w'.cell? ⟨w.heap.size, 4, none⟩ = some (.string ⟨#[102]⟩) ∧ w'.cell? ⟨w.heap.size, 2, none⟩ = some (.int .i64 1))) := Lib.hid (fun wx w' hb hu => by
    have hK : ¬ (k.K = fc.F ∨ k.K = x.a) := by
      rintro (e | e)
      · exact hK0 (h.sep _ (e ▸ hF))
      · exact hK0 (h.sep _ (e ▸ ha))
    have hC : ¬ (w.heap.size = fc.F ∨ w.heap.size = x.a) := by
      rintro (e | e)
      · have := hz _ hF; omega
      · have := hz _ ha; omega
    obtain ⟨t1, t2, t3, t4, t5, t6, t7⟩ := HS.out wx hb
    have lt : ∀ {b o v}, wx.cell? ⟨b, o, none⟩ = some v → b < wx.heap.size := fun e => World.block_lt_of_cell? wx _ e
    exact ⟨(hu.cell (lt t1) hK).trans t1, (hu.cell (lt t2) hC).trans t2, (hu.cell (lt t3) hK).trans t3, (hu.cell (lt t4) hK).trans t4, (hu.cell (lt t5) hK).trans t5, (hu.cell (lt t6) hC).trans t6, (hu.cell (lt t7) hC).trans t7⟩)
  have i17 : (p : Int) < 17 := by have := q.p16; omega
  have HH := Lib.hid h
  have HRT := Lib.hid hr
  have HB1 := Lib.hid hb1
  have HMF : Hid (∀ wx w' x', Below w.heap.size w wx → MadeF wx w' fc x q0 m 0 0 x' → (KF w' k s fc x' ∧ FileF x' q0 m ∧ x'.held = x.held ∧ x'.nh = x.nh ∧ Upd x.bs w w' ∧ ∀ j, x'.bs j → x.bs j ∨ w.heap.size ≤ j)) := Lib.hid (fun wx w' x' hb hx => by
    have hu : Upd x.bs wx w' := hx.up.mono fun j _ e => by rcases e with rfl | rfl; exact hF; exact ha
    have hs : ∀ j, x'.bs j → x.bs j ∨ w.heap.size ≤ j := fun j e => (hx.bs j e).imp_right fun q => Nat.le_trans hb.size q
    exact ⟨⟨(h.keep hb).kt.upd hu (fun j e q => e (h.sep j q)), h.c2, hx.st, fun j e => (hs j e).elim (h.sep j) (h.kt.tz j)⟩, hx.file hr hna, hx.held.1, hx.held.2, (Upd.below hb).trans hu, hs⟩)
  clear h q hr hna hm hM hM2 hb1 hr1 hc11 hz hF ha hK0
  go_enter Tryz.func152, Tryz.ntmps152
  go_upto_region 1 with fail
  generalize w.alloc (.cells A 37) = w1 at *
  go_upto_region 2 with (go_at_call 87; (with_reducible refine HW.out.mono ?_); rintro e2 w2 ⟨rfl, hb2⟩)
  have HB3 := Lib.hid (hb2.alloc hb2.size (.cells (stA nd0) 32))
  clear hb2 d4 HW
  generalize w2.alloc (.cells (stA nd0) 32) = w3 at *
  obtain ⟨t1, t2, t3, t4, t5, t6, t7⟩ := HS.out _ HB3.out
  have HL3 := Lib.hid (HLS.out _ (HB1.out.trans (HB3.out.mono HB1.out.size)))
  clear HLS
  go_upto_region 4 with (go_at_call 162; (with_reducible refine HL3.out.mono ?_); rintro e4 w4 ⟨rfl, hb4⟩)
  have HB4 := Lib.hid (HB3.out.trans (hb4.mono HB3.out.size))
  have HB14 := Lib.hid (HB1.out.trans (HB4.out.mono HB1.out.size))
  clear hb4 HL3 t1 t2 t3 t4 t5 t6 t7
  go_upto_region 7 with fail
  go_region_held3 (fun wx => wx.cell? ⟨k.K, 2, none⟩ = some (.pointer (some ⟨fc.F, 0, none⟩)) ∧ wx.cell? ⟨w.heap.size, 3, none⟩ = some (.int .i64 m) ∧ wx.cell? ⟨k.K, 8 + p * 38 + 11, none⟩ = some (.int .i64 0) ∧ wx.cell? ⟨k.K, 8 + p * 38 + 12, none⟩ = some (.int .i64 0) ∧ wx.cell? ⟨k.K, 8 + p * 38 + 11 + 1, none⟩ = some (.int .i64 0) ∧ wx.cell? ⟨w.heap.size, 4, none⟩ = some (.string ⟨#[102]⟩) ∧ wx.cell? ⟨w.heap.size, 2, none⟩ = some (.int .i64 1)) (first | (with_reducible exact HS.out _ HB4.out) | (with_reducible exact HS.out _ HB4.out.drew) | (with_reducible exact HS2.out _ _ HB4.out.drew HX9.out.up) | fail) (first | (go_at_call 61; (with_reducible refine (HMK.out _ HB14.out.drew).mono ?_); rintro e9 w9 ⟨rfl, x9, hx9⟩; have HX9 := Lib.hid hx9; clear hx9) | fail)
  all_goals
    go_wp2_with fail
    go_ret2
    exact ⟨rfl, x9, HMF.out _ _ _ HB14.out.drew HX9.out⟩
end
end Go.Proofs.YtlfemcbfclallaaGreatDoor
