/- The kernel's block, by its cells. The walk of kernel.Start. -/
import Derived.Test.YtnbhohaphmilmaaGreatDoorBegin
import Derived.Test.YtnbhohaphmilmaaGreatDoorProcPlain
import Derived.Test.YtnbhohaphmilmaaGreatDoorOpenWalk
import Derived.Test.YtnbhohaphmilmaaGreatDoorDiskNew
import Derived.Test.YtnbhohaphmilmaaGreatDoorMake
namespace Go.Proofs.YtnbhohaphmilmaaGreatDoor
open Go.RowKit
set_option linter.unusedVariables false
set_option linter.unusedSimpArgs false
def kerA (c : Nat → Value) : Array Value := Array.ofFn (n := 655) (fun j => c j.val)
def upV (c : Nat → Value) (i : Nat) (v : Value) : Nat → Value := fun j => if j = i then v else c j
noncomputable def kz (j : Nat) : Value := (Tryz.zeroCells87[j]?).getD undef
theorem kerA_size (c) : (kerA c).size = 655 := by simp [kerA]
theorem kerA_get (c) {j : Nat} (h : j < 655) : (kerA c)[j]? = some (c j) := by simp [kerA, h]
theorem kerA_up (c) {i : Nat} (h : i < 655) (v : Value) : (kerA c).setIfInBounds i v = kerA (upV c i v) := by
  apply Array.ext_getElem?
  intro j
  rw [Array.getElem?_setIfInBounds]
  by_cases hj : j < 655
  · rw [kerA_get _ hj, kerA_get _ hj]
    unfold upV
    by_cases e : j = i
    · subst e; rw [if_pos rfl, if_pos rfl, if_pos (by rw [kerA_size]; exact h)]
    · rw [if_neg (fun q => e q.symm), if_neg e]
  · rw [if_neg (by omega), Array.getElem?_eq_none (by rw [kerA_size]; omega), Array.getElem?_eq_none (by rw [kerA_size]; omega)]
theorem kz_size : Tryz.zeroCells87.size = 655 := by kernel_rfl
theorem kerA_kz : kerA kz = Tryz.zeroCells87 := by
  apply Array.ext_getElem?
  intro j
  by_cases hj : j < 655
  · rw [kerA_get _ hj]
    unfold kz
    rw [Array.getElem?_eq_getElem (by rw [kz_size]; exact hj)]
    rfl
  · rw [Array.getElem?_eq_none (by rw [kerA_size]; omega), Array.getElem?_eq_none (by rw [kz_size]; omega)]
theorem bd_ker (ps : Array (Nat × Value)) : Instr.build 87 ps = bdR 87 ps := rfl
theorem bd_ker_run {e : Int} (w : World) (a b c d : Option Addr) : (bdR 87 #[(0, .int .i64 e), (3, .pointer a), (5, .pointer b), (6, .pointer c), (7, .pointer d)]).run Tryz.prog w = .ok (.agg (((((Tryz.zeroCells87.setIfInBounds 0 (.int .i64 e)).setIfInBounds 3 (.pointer a)).setIfInBounds 5 (.pointer b)).setIfInBounds 6 (.pointer c)).setIfInBounds 7 (.pointer d))) w := by kernel_rfl
theorem ker0 {e : Int} (a b c d : Option Addr) : ((((Tryz.zeroCells87.setIfInBounds 0 (.int .i64 e)).setIfInBounds 3 (.pointer a)).setIfInBounds 5 (.pointer b)).setIfInBounds 6 (.pointer c)).setIfInBounds 7 (.pointer d) = kerA (upV (upV (upV (upV (upV kz 0 (.int .i64 e)) 3 (.pointer a)) 5 (.pointer b)) 6 (.pointer c)) 7 (.pointer d)) := by
  rw [← kerA_kz, kerA_up _ (by decide), kerA_up _ (by decide), kerA_up _ (by decide), kerA_up _ (by decide), kerA_up _ (by decide)]
/-- the kernel's block -/
def KR (w : World) (K : Nat) (c : Nat → Value) : Prop := Row w K 87 (kerA c)
section
variable {w w' : World} {K : Nat} {c : Nat → Value}
theorem KR.cell (h : KR w K c) {j : Nat} (hj : j < 655) : w.cell? ⟨K, j, none⟩ = some (c j) := by rw [Row.cell h, kerA_get _ hj]
theorem KR.fz (h : KR w K c) (j : Nat) : w.frozen? ⟨K, j, none⟩ = false := Row.fz h j
theorem KR.keep (h : KR w K c) (hb : Below w.heap.size w w') : KR w' K c := Row.keep h hb
theorem KR.upd {S : Nat → Prop} (h : KR w K c) (hu : Upd S w w') (hn : ¬ S K) : KR w' K c := Row.upd h hu hn
theorem KR.kept {row : Option Nat} (h : KR w K c) (hg : w.grownBy w' row) (hn : some K ≠ row) : KR w' K c := Row.kept h hg hn
theorem KR.set (h : KR w K c) {i : Nat} (hi : i < 655) (v : Value) : KR (w.setCell ⟨K, i, none⟩ v) K (upV c i v) := by
  unfold KR
  rw [Row.setCell h, kerA_up _ hi]
  exact Row.setRow h _
theorem KR.lt (h : KR w K c) : K < w.heap.size := Row.lt h
end
end Go.Proofs.YtnbhohaphmilmaaGreatDoor
namespace Go.Proofs.YtnbhohaphmilmaaGreatDoor
open Go.RowKit Go.Maps
set_option linter.unusedVariables false
set_option linter.unusedSimpArgs false
theorem Upd.grownK {K : Nat} {w w' : World} (h : Upd (fun k => k = K) w w') : w.grownBy w' (some K) := ⟨h.os, h.tape, h.output, h.size, fun k hk hn => h.block k hk (fun e => hn (by rw [e]))⟩
theorem Below.grownN {w w' : World} (h : Below w.heap.size w w') (row : Option Nat) : w.grownBy w' row := ⟨h.os, h.tape, h.output, h.size, fun k hk _ => h.block k hk⟩
theorem IMap.lt {w : World} {b n : Nat} {f : Int → Option (Nat × Int)} (h : IMap w b n f) : b < w.heap.size := by
  obtain ⟨D, hD, _⟩ := h
  exact hD.lt
theorem size_setCell1 (w : World) (a : Addr) (v : Value) : (w.setCell a v).heap.size = w.heap.size := by simp [World.setCell]
theorem FSw.updB {S : Nat → Prop} {w w' : World} {B F D L a : Nat} (h : FSw w B F D L a) (hu : Upd S w w') (hS : ∀ k, S k → k < B) : FSw w' B F D L a := by
  have lt : ∀ {k o}, w.heap[k]? = some o → k < w.heap.size := fun h => (Array.getElem?_eq_some_iff.1 h).1
  obtain ⟨z, n, c, b, hF⟩ := h.f
  have n1 := h.f0
  have n2 := h.l0
  have n3 := h.a0
  exact ⟨⟨z, n, c, b, (hu.block F (lt hF) (fun q => by have := hS _ q; omega)).trans hF⟩, (hu.block L (lt h.l) (fun q => by have := hS _ q; omega)).trans h.l, (hu.block a (lt h.m) (fun q => by have := hS _ q; omega)).trans h.m, h.f0, h.l0, h.a0⟩
/-- what lies ahead of the kernel's block -/
structure KP (w : World) (B P Wh Fi Pr K : Nat) : Prop where
  pi : Row w P 189 pipA
  wh : Row w Wh 192 #[.int .u32 0, .slice none 0 0]
  fi : OpenLaw.OTab w Fi (fun _ => OpenLaw.f0) (fun _ => 0)
  pr : ProcLaw.TabAt w Pr ProcLaw.start
  b : B ≤ P ∧ P < Wh ∧ Wh < Fi ∧ Fi < Pr ∧ Pr < K
theorem KP.keep {w w' : World} {B P Wh Fi Pr K : Nat} (h : KP w B P Wh Fi Pr K) (hb : Below w.heap.size w w') : KP w' B P Wh Fi Pr K := ⟨h.pi.keep hb, h.wh.keep hb, h.fi.keep hb, h.pr.keep hb, h.b⟩
theorem otab_keepB {w w' : World} {b B : Nat} {fs : Nat → OpenLaw.F} {fd : Nat → Nat} (h : OpenLaw.OTab w b fs fd) (hb : Below B w w') (hB : b < B) : OpenLaw.OTab w' b fs fd :=
  ⟨Nat.lt_of_lt_of_le h.lt hb.size, fun i => (hb.frozen (p := ⟨b, i, none⟩) hB).trans (h.fz i), h.le, fun k hk => (hb.cell (p := ⟨b, _, none⟩) hB).trans (h.c0 k hk), fun k hk => (hb.cell (p := ⟨b, _, none⟩) hB).trans (h.c1 k hk), fun k hk => (hb.cell (p := ⟨b, _, none⟩) hB).trans (h.c2 k hk), fun k hk => (hb.cell (p := ⟨b, _, none⟩) hB).trans (h.c3 k hk), fun k hk => (hb.cell (p := ⟨b, _, none⟩) hB).trans (h.c4 k hk), fun k hk => (hb.cell (p := ⟨b, _, none⟩) hB).trans (h.c5 k hk), fun p j hp hj => (hb.cell (p := ⟨b, _, none⟩) hB).trans (h.d p j hp hj)⟩
theorem tab_keepB {w w' : World} {b B : Nat} {t : ProcLaw.T} (h : ProcLaw.TabAt w b t) (hb : Below B w w') (hB : b < B) : ProcLaw.TabAt w' b t :=
  ⟨Nat.lt_of_lt_of_le h.lt hb.size, fun i => (hb.frozen (p := ⟨b, i, none⟩) hB).trans (h.fz i), fun k hk => (hb.cell (p := ⟨b, _, none⟩) hB).trans (h.st k hk), fun k hk => (hb.cell (p := ⟨b, _, none⟩) hB).trans (h.par k hk), fun k hk => (hb.cell (p := ⟨b, _, none⟩) hB).trans (h.gr k hk), fun k hk => (hb.cell (p := ⟨b, _, none⟩) hB).trans (h.code k hk)⟩
/-- what is done at the kernel's block and behind it leaves that -/
theorem KP.keepB {w w' : World} {B P Wh Fi Pr K : Nat} (h : KP w B P Wh Fi Pr K) (hb : Below K w w') : KP w' B P Wh Fi Pr K := by
  have b := h.b
  exact ⟨h.pi.keepB hb (by omega), h.wh.keepB hb (by omega), otab_keepB h.fi hb (by omega), tab_keepB h.pr hb (by omega), h.b⟩
/-- a kernel that has begun -/
structure KS (w : World) (nc B K P Wh Fi Pr R M so sp : Nat) (c : Nat → Value) : Prop where
  kp : KP w B P Wh Fi Pr K
  kr : KR w K c
  c0 : c 0 = .int .i64 nc
  c1 : c 1 = .pointer (some ⟨M, 0, none⟩)
  c3 : c 3 = .pointer (some ⟨P, 0, none⟩)
  c4 : c 4 = .pointer (some ⟨R, 0, none⟩)
  c5 : c 5 = .pointer (some ⟨Wh, 0, none⟩)
  c6 : c 6 = .pointer (some ⟨Fi, 0, none⟩)
  c7 : c 7 = .pointer (some ⟨Pr, 0, none⟩)
  t0 : c 46 = .int .i64 1
  sg : ∀ j, j < 18 → c (65 + j) = kz (65 + j)
  sl : c 83 = .bool false
  mm : Row w M 133 #[.int .i64 48, .int .i64 8, .int .i64 0, .slice none 0 0, .map (some so)]
  om : OMap w so 1 (fun k => if k = 1 then some sp else none)
  im : IMap w sp 0 (fun _ => none)
  ru : ∃ T cc, RunG w R (some ⟨T, 0, none⟩) cc nc 0 (onePin nc) [⟨1, 0, true, 0⟩] ∧ sp < T
  or : K < R ∧ R < so ∧ so < M ∧ M < sp
  ck : ∀ j, 8 ≤ j → j ≠ 46 → (j < 56 ∨ 63 < j) → c j = kz j
  tk : c 56 = .int .i64 1 ∧ c 57 = .int .i64 0 ∧ c 58 = .int .i64 0 ∧ c 59 = .slice none 0 0 ∧ c 60 = .int .i64 127 ∧ c 61 = .int .i64 0 ∧ c 62 = .int .i64 0
  wd : ∃ b, c 63 = .slice (some ⟨b, 0, none⟩) 1 1 ∧ Row w b 3 #[.int .i64 1] ∧ sp < b
attribute [local go_sem ↓] bd_ker
section
variable {w : World} {D sb nb m : Nat} {wv : Value} {s f : List Int}
set_option maxRecDepth 100000 in
set_option maxHeartbeats 1000000 in
theorem start_is (h : Dk w D sb nb wv m 64 s f) (hf : Fmt f) {nc : Nat} (n1 : 1 ≤ nc) (n4 : nc ≤ 4) : Calls Tryz.prog 12 #[.int .i64 nc, .int .i64 48, .int .i64 8, .pointer (some ⟨D, 0, none⟩)] w fun e w' => ∃ K P Wh Fi Pr R M so sp c, e = .returned (.tuple #[.pointer (some ⟨K, 0, none⟩), .int .i64 0]) ∧ KS w' nc w.heap.size K P Wh Fi Pr R M so sp c ∧ Below w.heap.size w w' := by
  have HD := Lib.hid h
  have HF := Lib.hid hf
  have HNC := Lib.hid (And.intro n1 n4)
  have hbd := bd_ker_run (e := (nc : Int))
  have HP := Lib.hid (pnew_is w)
  have HWN := Lib.hid (wnew_is (w.alloc (.cells pipA 189)))
  have HON := Lib.hid (OpenLaw.new_is ((w.alloc (.cells pipA 189)).alloc (.cells #[.int .u32 0, .slice none 0 0] 192)))
  clear h hf n1 n4
  go_enter Tryz.func12, Tryz.ntmps12
  go_upto_region 2 with (first | (go_at_call 26; refine HP.out.mono ?_; rintro e1 w1 ⟨rfl, rfl⟩) | (go_at_call 27; refine HWN.out.mono ?_; rintro e2 w2 ⟨rfl, rfl⟩) | (go_at_call 28; refine HON.out.mono ?_; rintro e3 w3 ⟨rfl, hb3, hz3, ho3⟩; have HPN := Lib.hid (ProcLaw.new_is w3)) | (go_at_call 29; refine HPN.out.mono ?_; rintro e4 w4 ⟨rfl, hb4, hp4⟩))
  have hz2 : ((w.alloc (.cells pipA 189)).alloc (.cells #[.int .u32 0, .slice none 0 0] 192)).heap.size = w.heap.size + 1 + 1 := by simp
  have hz1 : (w.alloc (.cells pipA 189)).heap.size = w.heap.size + 1 := by simp
  have hpi := (((row_new w 189 pipA).alloc (.cells #[.int .u32 0, .slice none 0 0] 192)).keep hb3).keep hb4
  have hwh := ((row_new (w.alloc (.cells pipA 189)) 192 #[.int .u32 0, .slice none 0 0]).keep hb3).keep hb4
  rw [hz1] at hwh
  have hfi := ho3.keep hb4
  rw [hz2] at hz3 hfi
  rw [hz3] at hp4
  have hb02 : Below w.heap.size w ((w.alloc (.cells pipA 189)).alloc (.cells #[.int .u32 0, .slice none 0 0] 192)) := ((Below.refl _ _).alloc (Nat.le_refl _) _).alloc (by simp) _
  have hb04 := hb02.trans ((hb3.trans (hb4.mono hb3.size)).mono hb02.size)
  have hal := Go.Joins.below_alloc1 w4 (.cells (((((Tryz.zeroCells87.setIfInBounds 0 (.int .i64 nc)).setIfInBounds 3 (.pointer (some ⟨w.heap.size, 0, none⟩))).setIfInBounds 5 (.pointer (some ⟨w.heap.size + 1, 0, none⟩))).setIfInBounds 6 (.pointer (some ⟨w.heap.size + 1 + 1, 0, none⟩))).setIfInBounds 7 (.pointer (some ⟨w.heap.size + 1 + 1 + 1, 0, none⟩))) 87)
  have HK : Hid (KR (w4.alloc (.cells (((((Tryz.zeroCells87.setIfInBounds 0 (.int .i64 nc)).setIfInBounds 3 (.pointer (some ⟨w.heap.size, 0, none⟩))).setIfInBounds 5 (.pointer (some ⟨w.heap.size + 1, 0, none⟩))).setIfInBounds 6 (.pointer (some ⟨w.heap.size + 1 + 1, 0, none⟩))).setIfInBounds 7 (.pointer (some ⟨w.heap.size + 1 + 1 + 1, 0, none⟩))) 87)) w4.heap.size (upV (upV (upV (upV (upV kz 0 (.int .i64 nc)) 3 (.pointer (some ⟨w.heap.size, 0, none⟩))) 5 (.pointer (some ⟨w.heap.size + 1, 0, none⟩))) 6 (.pointer (some ⟨w.heap.size + 1 + 1, 0, none⟩))) 7 (.pointer (some ⟨w.heap.size + 1 + 1 + 1, 0, none⟩)))) := Lib.hid (by
    unfold KR
    rw [← ker0]
    exact row_new w4 _ _)
  have HKP : Hid (KP (w4.alloc (.cells (((((Tryz.zeroCells87.setIfInBounds 0 (.int .i64 nc)).setIfInBounds 3 (.pointer (some ⟨w.heap.size, 0, none⟩))).setIfInBounds 5 (.pointer (some ⟨w.heap.size + 1, 0, none⟩))).setIfInBounds 6 (.pointer (some ⟨w.heap.size + 1 + 1, 0, none⟩))).setIfInBounds 7 (.pointer (some ⟨w.heap.size + 1 + 1 + 1, 0, none⟩))) 87)) w.heap.size w.heap.size (w.heap.size + 1) (w.heap.size + 1 + 1) (w.heap.size + 1 + 1 + 1) w4.heap.size) := Lib.hid ⟨hpi.keep hal, hwh.keep hal, hfi.keep hal, hp4.keep hal, by have := hp4.lt; omega⟩
  have HB5 := Lib.hid (hb04.trans (hal.mono hb04.size))
  have HKK : Hid (w.heap.size ≤ w4.heap.size) := Lib.hid hb04.size
  clear hz1 hz2 hz3 hpi hwh hfi hb02 hb04 hal hb3 hb4 ho3 hp4 HP HWN HON HPN hbd
  generalize w4.alloc (.cells (((((Tryz.zeroCells87.setIfInBounds 0 (.int .i64 nc)).setIfInBounds 3 (.pointer (some ⟨w.heap.size, 0, none⟩))).setIfInBounds 5 (.pointer (some ⟨w.heap.size + 1, 0, none⟩))).setIfInBounds 6 (.pointer (some ⟨w.heap.size + 1 + 1, 0, none⟩))).setIfInBounds 7 (.pointer (some ⟨w.heap.size + 1 + 1 + 1, 0, none⟩))) 87) = w5 at *
  obtain ⟨K, hK⟩ : ∃ K, K = w4.heap.size := ⟨_, rfl⟩
  rw [← hK] at HK HKP HKK ⊢
  clear hK
  have HBK : Hid (Below K w5 w5) := Lib.hid (Below.refl _ _)
  have HKW : Hid (K < w5.heap.size) := Lib.hid HK.out.lt
  obtain ⟨c0, hc0⟩ : ∃ c0, c0 = (upV (upV (upV (upV (upV kz 0 (.int .i64 nc)) 3 (.pointer (some ⟨w.heap.size, 0, none⟩))) 5 (.pointer (some ⟨w.heap.size + 1, 0, none⟩))) 6 (.pointer (some ⟨w.heap.size + 1 + 1, 0, none⟩))) 7 (.pointer (some ⟨w.heap.size + 1 + 1 + 1, 0, none⟩))) := ⟨_, rfl⟩
  rw [← hc0] at HK
  have HC0 : Hid (c0 0 = .int .i64 nc ∧ c0 1 = .pointer none ∧ c0 2 = .pointer none ∧ c0 3 = .pointer (some ⟨w.heap.size, 0, none⟩) ∧ c0 4 = .pointer none ∧ c0 5 = .pointer (some ⟨w.heap.size + 1, 0, none⟩) ∧ c0 6 = .pointer (some ⟨w.heap.size + 1 + 1, 0, none⟩) ∧ c0 7 = .pointer (some ⟨w.heap.size + 1 + 1 + 1, 0, none⟩) ∧ c0 46 = .int .i64 0 ∧ c0 56 = .int .i64 0 ∧ c0 57 = .int .i64 0 ∧ c0 58 = .int .i64 0 ∧ c0 59 = .slice none 0 0 ∧ c0 60 = .int .i64 0 ∧ c0 61 = .int .i64 0 ∧ c0 62 = .int .i64 0 ∧ c0 63 = .slice none 0 0 ∧ c0 83 = .bool false) := Lib.hid (by
    rw [hc0]
    exact ⟨rfl, rfl, rfl, rfl, rfl, rfl, rfl, rfl, rfl, rfl, rfl, rfl, rfl, rfl, rfl, rfl, rfl, rfl⟩)
  have HC1 : Hid (∀ j, 8 ≤ j → c0 j = kz j) := Lib.hid (fun j hj => by
    rw [hc0]
    unfold upV
    rw [if_neg (by omega), if_neg (by omega), if_neg (by omega), if_neg (by omega), if_neg (by omega)])
  clear hc0
  have HSN := Lib.hid (snewG_is w5 HNC.out.1 HNC.out.2)
  have kk : ∀ (w' : World) (c : Nat → Value) (i : Nat) (v : Value), KR w' K c → i < 655 → c i = v → w'.cell? ⟨K, i, none⟩ = some v := fun w' c i v h hi e => by rw [h.cell hi, e]
  have HKKC := Lib.hid kk
  clear kk
  go_upto_region 4 with (go_at_call 30; refine HSN.out.mono ?_; rintro e6 w6 ⟨rfl, hb6, hz6, hr6⟩; have k6 := HK.out.keep hb6; have q6 := HKKC.out w6 _ 4 _ k6 (by decide) HC0.out.2.2.2.2.1; have f6 := k6.fz 4)
  have HU7 := Lib.hid (Upd.set w6 (b := K) (i := 4) (.pointer (some ⟨w5.heap.size, 0, none⟩)) (S := fun k => k = K) rfl)
  have HK7 := Lib.hid (k6.set (i := 4) (by decide) (.pointer (some ⟨w5.heap.size, 0, none⟩)))
  have HR7 := Lib.hid (hr6.upd HU7.out (by have := HKW.out; omega) (fun _ e => by cases e))
  have HB56 := Lib.hid ((hb6.mono (Nat.le_of_lt HKW.out)).trans (HU7.out.toBelow (Nat.le_trans (Nat.le_of_lt HKW.out) hb6.size) (by omega)))
  have HB7 := Lib.hid (HB5.out.trans (HB56.out.mono HKK.out))
  have HS7 : Hid (w6.heap.size = (w6.setCell ⟨K, 4, none⟩ (.pointer (some ⟨w5.heap.size, 0, none⟩))).heap.size) := Lib.hid (by simp [World.setCell])
  have HZ6 := Lib.hid hz6
  clear k6 q6 f6 hz6 hr6 hb6 HSN HU7
  generalize w6.setCell ⟨K, 4, none⟩ (.pointer (some ⟨w5.heap.size, 0, none⟩)) = w7 at *
  have HSP := Lib.hid (spnew_is w7)
  have hal : Below w7.heap.size w7 ((w7.alloc (.map #[] 0)).alloc (.cells #[.int .i64 48, .int .i64 8, .int .i64 0, .slice none 0 0, .map (some w7.heap.size)] 133)) := ((Below.refl _ _).alloc (Nat.le_refl _) _).alloc (by simp) _
  have k8 := HK7.out.keep hal
  have q8 := HKKC.out _ _ 1 _ k8 (by decide) HC0.out.2.1
  have f8 := k8.fz 1
  have hom : OMap ((w7.alloc (.map #[] 0)).alloc (.cells #[.int .i64 48, .int .i64 8, .int .i64 0, .slice none 0 0, .map (some w7.heap.size)] 133)) w7.heap.size 0 (fun _ => none) := (OMap.made w7).kept (Below.grownN (Go.Joins.below_alloc1 _ _) none) (by simp)
  have hmr := row_new (w7.alloc (.map #[] 0)) 133 #[.int .i64 48, .int .i64 8, .int .i64 0, .slice none 0 0, .map (some w7.heap.size)]
  rw [size_alloc1] at hmr
  have hr8 := HR7.out.keep hal
  have hs8 : ((w7.alloc (.map #[] 0)).alloc (.cells #[.int .i64 48, .int .i64 8, .int .i64 0, .slice none 0 0, .map (some w7.heap.size)] 133)).heap.size = w7.heap.size + 1 + 1 := by simp
  have HKLT : Hid (K < w7.heap.size) := Lib.hid HK7.out.lt
  have HRLT : Hid (w5.heap.size < w7.heap.size) := Lib.hid HR7.out.lt
  have HU9 := Lib.hid (Upd.set ((w7.alloc (.map #[] 0)).alloc (.cells #[.int .i64 48, .int .i64 8, .int .i64 0, .slice none 0 0, .map (some w7.heap.size)] 133)) (b := K) (i := 1) (.pointer (some ⟨w7.heap.size + 1, 0, none⟩)) (S := fun k => k = K) rfl)
  have HK9 := Lib.hid (k8.set (i := 1) (by decide) (.pointer (some ⟨w7.heap.size + 1, 0, none⟩)))
  have HR9 := Lib.hid (hr8.upd HU9.out (by have := HKW.out; omega) (fun _ e => by cases e))
  have HM9 := Lib.hid (hmr.upd HU9.out (by have := HKLT.out; omega))
  have HO9 := Lib.hid (hom.kept HU9.out.grownK (by have := HKLT.out; intro e; injection e with e; omega))
  have HB79 := Lib.hid ((hal.mono (Nat.le_of_lt HKLT.out)).trans (HU9.out.toBelow (by rw [hs8]; have := HKLT.out; omega) (by omega)))
  have HB9 := Lib.hid (HB7.out.trans (HB79.out.mono HKK.out))
  have HB59 := Lib.hid (HB56.out.trans HB79.out)
  have HZM : Hid (w7.heap.size + 1 < ((((w7.alloc (.map #[] 0)).alloc (.cells #[.int .i64 48, .int .i64 8, .int .i64 0, .slice none 0 0, .map (some w7.heap.size)] 133)).setCell ⟨K, 1, none⟩ (.pointer (some ⟨w7.heap.size + 1, 0, none⟩)))).heap.size) := Lib.hid HM9.out.lt
  clear hom hmr hr8 k8 hal HU9 HK7 HR7 HB7 HB56 HB79
  go_upto_region 7 with (go_at_call 31; refine HSP.out.mono ?_; rintro e8 w8 ⟨rfl, rfl⟩)
  clear q8 f8 hs8 HSP
  generalize ((w7.alloc (.map #[] 0)).alloc (.cells #[.int .i64 48, .int .i64 8, .int .i64 0, .slice none 0 0, .map (some w7.heap.size)] 133)).setCell ⟨K, 1, none⟩ (.pointer (some ⟨w7.heap.size + 1, 0, none⟩)) = w9 at *
  have HMT := Lib.hid (mount_is (HD.out.keep HB9.out) HF.out)
  go_upto_region 10 with (go_at_call 23; refine HMT.out.mono ?_; rintro e10 w10 ⟨F, L, a, rfl, hfs, hb10⟩; have k10 := HK9.out.keep hb10; have q10 := HKKC.out w10 _ 2 _ k10 (by decide) HC0.out.2.2.1; have f10 := k10.fz 2)
  have HU11 := Lib.hid (Upd.set w10 (b := K) (i := 2) (.pointer (some ⟨F, 0, none⟩)) (S := fun k => k = K) rfl)
  have HKL9 : Hid (K < w9.heap.size) := Lib.hid HK9.out.lt
  have HK11 := Lib.hid (k10.set (i := 2) (by decide) (.pointer (some ⟨F, 0, none⟩)))
  have HR11 := Lib.hid ((HR9.out.keep hb10).upd HU11.out (by have := HKW.out; omega) (fun _ e => by cases e))
  have HM11 := Lib.hid ((HM9.out.keep hb10).upd HU11.out (by have := HKLT.out; omega))
  have HO11 := Lib.hid ((HO9.out.kept (Below.grownN hb10 none) (by simp)).kept HU11.out.grownK (by have := HKLT.out; intro e; injection e with e; omega))
  have HB911 := Lib.hid ((hb10.mono (Nat.le_of_lt HKL9.out)).trans (HU11.out.toBelow (Nat.le_trans (Nat.le_of_lt HKL9.out) hb10.size) (by omega)))
  have HB11 := Lib.hid (HB9.out.trans (HB911.out.mono HKK.out))
  have HB511 := Lib.hid (HB59.out.trans HB911.out)
  have HF11 := Lib.hid (hfs.updB HU11.out (fun k hk => by have := HKL9.out; omega))
  clear k10 q10 f10 hb10 hfs HMT HU11 HK9 HR9 HM9 HO9 HB9 HB59 HB911
  generalize w10.setCell ⟨K, 2, none⟩ (.pointer (some ⟨F, 0, none⟩)) = w11 at *
  have HSM : Hid (w7.heap.size + 1 < w11.heap.size) := Lib.hid HM11.out.lt
  have m4 : w11.cell? ⟨w7.heap.size + 1, 4, none⟩ = some (.map (some w7.heap.size)) := by rw [HM11.out.cell]; rfl
  have q11 := HKKC.out w11 _ 1 _ HK11.out (by decide) rfl
  have HMK := Lib.hid (spmake_is m4 HO11.out)
  clear m4
  go_upto_region 14 with (go_at_call 32; refine HMK.out.mono ?_; rintro e12 w12 ⟨rfl, ho12, hi12, hg12⟩; have k12 := HK11.out.kept hg12 (by have := HKLT.out; intro e; injection e with e; omega); have q12 := HKKC.out w12 _ 46 _ k12 (by decide) HC0.out.2.2.2.2.2.2.2.2.1; have f12 := k12.fz 46)
  have HU13 := Lib.hid (Upd.set w12 (b := K) (i := 46) (.int .i64 1) (S := fun k => k = K) rfl)
  have HKL11 : Hid (K < w11.heap.size) := Lib.hid HK11.out.lt
  have HK13 := Lib.hid (k12.set (i := 46) (by decide) (.int .i64 1))
  have HR13 := Lib.hid ((HR11.out.upd (Upd.grown hg12 (S := fun k => k = w7.heap.size) rfl) (by have := HRLT.out; omega) (fun _ e => by cases e)).upd HU13.out (by have := HKW.out; omega) (fun _ e => by cases e))
  have HM13 := Lib.hid ((HM11.out.kept hg12 (by intro e; injection e with e; omega)).upd HU13.out (by have := HKLT.out; omega))
  have HO13 := Lib.hid (ho12.kept HU13.out.grownK (by have := HKLT.out; intro e; injection e with e; omega))
  have HI13 := Lib.hid (hi12.kept HU13.out.grownK (by have := HKL11.out; intro e; injection e with e; omega))
  have HB1113 := Lib.hid (((Below.refl K w11).grown hg12 (Nat.le_of_lt HKL11.out) (fun k hk => by injection hk with hk; have := HKLT.out; omega)).trans (HU13.out.toBelow (Nat.le_trans (Nat.le_of_lt HKL11.out) hg12.size) (by omega)))
  have HB13 := Lib.hid (HB11.out.trans (HB1113.out.mono HKK.out))
  have HB513 := Lib.hid (HB511.out.trans HB1113.out)
  have HF13 := Lib.hid ((HF11.out.updB (Upd.grown hg12 (S := fun k => k = w7.heap.size) rfl) (fun k hk => by have := HZM.out; omega)).updB HU13.out (fun k hk => by have := HKL9.out; omega))
  clear k12 q12 f12 ho12 hi12 hg12 HMK HU13 HK11 HR11 HM11 HO11 HB11 HB511 HB1113 q11 HF11
  generalize w12.setCell ⟨K, 46, none⟩ (.int .i64 1) = w13 at *
  have HC2 := Lib.hid (HC0.out.2.2.2.2.2.2.2.2.2)
  have q56 := HKKC.out w13 _ 56 _ HK13.out (by decide) HC2.out.1
  have q57 := HKKC.out w13 _ 57 _ HK13.out (by decide) HC2.out.2.1
  have q58 := HKKC.out w13 _ 58 _ HK13.out (by decide) HC2.out.2.2.1
  have q59 := HKKC.out w13 _ 59 _ HK13.out (by decide) HC2.out.2.2.2.1
  have q60 := HKKC.out w13 _ 60 _ HK13.out (by decide) HC2.out.2.2.2.2.1
  have q61 := HKKC.out w13 _ 61 _ HK13.out (by decide) HC2.out.2.2.2.2.2.1
  have q62 := HKKC.out w13 _ 62 _ HK13.out (by decide) HC2.out.2.2.2.2.2.2.1
  have q63 := HKKC.out w13 _ 63 _ HK13.out (by decide) HC2.out.2.2.2.2.2.2.2.1
  have f56 := HK13.out.fz 56
  have f57 := HK13.out.fz 57
  have f58 := HK13.out.fz 58
  have f59 := HK13.out.fz 59
  have f60 := HK13.out.fz 60
  have f61 := HK13.out.fz 61
  have f62 := HK13.out.fz 62
  have f63 := HK13.out.fz 63
  have hkl : K < w13.heap.size := HK13.out.lt
  have hkne : ¬ K = w13.heap.size := by omega
  go_upto_region 19 with fail
  have HU14 : Hid (Upd (fun k => k = K) w13 ((((((((w13.setCell ⟨K, 56, none⟩ (.int .i64 1)).setCell ⟨K, 57, none⟩ (.int .i64 0)).setCell ⟨K, 58, none⟩ (.int .i64 0)).setCell ⟨K, 59, none⟩ (.slice none 0 0)).setCell ⟨K, 60, none⟩ (.int .i64 127)).setCell ⟨K, 61, none⟩ (.int .i64 0)).setCell ⟨K, 62, none⟩ (.int .i64 0)).setCell ⟨K, 63, none⟩ (.slice (some ⟨w13.heap.size, 0, none⟩) 1 1))) := Lib.hid ((((((((Upd.set w13 (b := K) (i := 56) (S := fun k => k = K) (.int .i64 1) rfl).trans (Upd.set (w13.setCell ⟨K, 56, none⟩ (.int .i64 1)) (b := K) (i := 57) (S := fun k => k = K) (.int .i64 0) rfl)).trans (Upd.set ((w13.setCell ⟨K, 56, none⟩ (.int .i64 1)).setCell ⟨K, 57, none⟩ (.int .i64 0)) (b := K) (i := 58) (S := fun k => k = K) (.int .i64 0) rfl)).trans (Upd.set (((w13.setCell ⟨K, 56, none⟩ (.int .i64 1)).setCell ⟨K, 57, none⟩ (.int .i64 0)).setCell ⟨K, 58, none⟩ (.int .i64 0)) (b := K) (i := 59) (S := fun k => k = K) (.slice none 0 0) rfl)).trans (Upd.set ((((w13.setCell ⟨K, 56, none⟩ (.int .i64 1)).setCell ⟨K, 57, none⟩ (.int .i64 0)).setCell ⟨K, 58, none⟩ (.int .i64 0)).setCell ⟨K, 59, none⟩ (.slice none 0 0)) (b := K) (i := 60) (S := fun k => k = K) (.int .i64 127) rfl)).trans (Upd.set (((((w13.setCell ⟨K, 56, none⟩ (.int .i64 1)).setCell ⟨K, 57, none⟩ (.int .i64 0)).setCell ⟨K, 58, none⟩ (.int .i64 0)).setCell ⟨K, 59, none⟩ (.slice none 0 0)).setCell ⟨K, 60, none⟩ (.int .i64 127)) (b := K) (i := 61) (S := fun k => k = K) (.int .i64 0) rfl)).trans (Upd.set ((((((w13.setCell ⟨K, 56, none⟩ (.int .i64 1)).setCell ⟨K, 57, none⟩ (.int .i64 0)).setCell ⟨K, 58, none⟩ (.int .i64 0)).setCell ⟨K, 59, none⟩ (.slice none 0 0)).setCell ⟨K, 60, none⟩ (.int .i64 127)).setCell ⟨K, 61, none⟩ (.int .i64 0)) (b := K) (i := 62) (S := fun k => k = K) (.int .i64 0) rfl)).trans (Upd.set (((((((w13.setCell ⟨K, 56, none⟩ (.int .i64 1)).setCell ⟨K, 57, none⟩ (.int .i64 0)).setCell ⟨K, 58, none⟩ (.int .i64 0)).setCell ⟨K, 59, none⟩ (.slice none 0 0)).setCell ⟨K, 60, none⟩ (.int .i64 127)).setCell ⟨K, 61, none⟩ (.int .i64 0)).setCell ⟨K, 62, none⟩ (.int .i64 0)) (b := K) (i := 63) (S := fun k => k = K) (.slice (some ⟨w13.heap.size, 0, none⟩) 1 1) rfl))
  have HK14 := Lib.hid ((((((((HK13.out.set (i := 56) (by decide) (.int .i64 1)).set (i := 57) (by decide) (.int .i64 0)).set (i := 58) (by decide) (.int .i64 0)).set (i := 59) (by decide) (.slice none 0 0)).set (i := 60) (by decide) (.int .i64 127)).set (i := 61) (by decide) (.int .i64 0)).set (i := 62) (by decide) (.int .i64 0)).set (i := 63) (by decide) (.slice (some ⟨w13.heap.size, 0, none⟩) 1 1))
  have hal := Go.Joins.below_alloc1 ((((((((w13.setCell ⟨K, 56, none⟩ (.int .i64 1)).setCell ⟨K, 57, none⟩ (.int .i64 0)).setCell ⟨K, 58, none⟩ (.int .i64 0)).setCell ⟨K, 59, none⟩ (.slice none 0 0)).setCell ⟨K, 60, none⟩ (.int .i64 127)).setCell ⟨K, 61, none⟩ (.int .i64 0)).setCell ⟨K, 62, none⟩ (.int .i64 0)).setCell ⟨K, 63, none⟩ (.slice (some ⟨w13.heap.size, 0, none⟩) 1 1)) (.cells #[.int .i64 1] 3)
  have HK15 := Lib.hid (HK14.out.keep hal)
  have HR15 := Lib.hid ((HR13.out.upd HU14.out (by have := HKW.out; omega) (fun _ e => by cases e)).keep hal)
  have HM15 := Lib.hid ((HM13.out.upd HU14.out (by have := HKLT.out; omega)).keep hal)
  have HO15 := Lib.hid ((HO13.out.kept HU14.out.grownK (by have := HKLT.out; intro e; injection e with e; omega)).kept (Below.grownN hal none) (by simp))
  have HI15 := Lib.hid ((HI13.out.kept HU14.out.grownK (by have := HKL11.out; intro e; injection e with e; omega)).kept (Below.grownN hal none) (by simp))
  have HF15 := Lib.hid ((HF13.out.updB HU14.out (fun k hk => by have := HKL9.out; omega)).keep hal)
  have HW15 : Hid (Row ((((((((((w13.setCell ⟨K, 56, none⟩ (.int .i64 1)).setCell ⟨K, 57, none⟩ (.int .i64 0)).setCell ⟨K, 58, none⟩ (.int .i64 0)).setCell ⟨K, 59, none⟩ (.slice none 0 0)).setCell ⟨K, 60, none⟩ (.int .i64 127)).setCell ⟨K, 61, none⟩ (.int .i64 0)).setCell ⟨K, 62, none⟩ (.int .i64 0)).setCell ⟨K, 63, none⟩ (.slice (some ⟨w13.heap.size, 0, none⟩) 1 1)).alloc (.cells #[.int .i64 1] 3))) w13.heap.size 3 #[.int .i64 1]) := Lib.hid (by
    have := row_new ((((((((w13.setCell ⟨K, 56, none⟩ (.int .i64 1)).setCell ⟨K, 57, none⟩ (.int .i64 0)).setCell ⟨K, 58, none⟩ (.int .i64 0)).setCell ⟨K, 59, none⟩ (.slice none 0 0)).setCell ⟨K, 60, none⟩ (.int .i64 127)).setCell ⟨K, 61, none⟩ (.int .i64 0)).setCell ⟨K, 62, none⟩ (.int .i64 0)).setCell ⟨K, 63, none⟩ (.slice (some ⟨w13.heap.size, 0, none⟩) 1 1)) 3 #[.int .i64 1]
    simpa only [size_setCell1] using this)
  have HW13 : Hid (w11.heap.size < w13.heap.size) := Lib.hid HI13.out.lt
  have HB1315 := Lib.hid ((HU14.out.toBelow (B := K) (Nat.le_of_lt hkl) (by omega)).trans (hal.mono (Nat.le_of_lt HK14.out.lt)))
  have HB15 := Lib.hid (HB13.out.trans (HB1315.out.mono HKK.out))
  have HB515 := Lib.hid (HB513.out.trans HB1315.out)
  clear hal HU14 HK14 q56 q57 q58 q59 q60 q61 q62 q63 f56 f57 f58 f59 f60 f61 f62 f63 HK13 HR13 HM13 HO13 HI13 HB13 HB513 HB1315 hkne HF13
  generalize (((((((((w13.setCell ⟨K, 56, none⟩ (.int .i64 1)).setCell ⟨K, 57, none⟩ (.int .i64 0)).setCell ⟨K, 58, none⟩ (.int .i64 0)).setCell ⟨K, 59, none⟩ (.slice none 0 0)).setCell ⟨K, 60, none⟩ (.int .i64 127)).setCell ⟨K, 61, none⟩ (.int .i64 0)).setCell ⟨K, 62, none⟩ (.int .i64 0)).setCell ⟨K, 63, none⟩ (.slice (some ⟨w13.heap.size, 0, none⟩) 1 1)).alloc (.cells #[.int .i64 1] 3)) = w15 at *
  have q4 := HKKC.out w15 _ 4 _ HK15.out (by decide) rfl
  have HAD := Lib.hid (add1G HR15.out HNC.out.1 HNC.out.2)
  go_wp2_with (go_at_call 33; refine HAD.out.mono ?_; rintro e16 w16 ⟨rfl, hr16, hu16⟩; have HR16 := Lib.hid hr16; have HU16 := Lib.hid hu16; clear hr16 hu16)
  go_ret2
  obtain ⟨T, cc, hrun, hT⟩ := HR16.out
  have h2 := HKW.out
  have h3 := HRLT.out
  have HZR : Hid (w5.heap.size < w7.heap.size) := HRLT
  have h4 : w7.heap.size + 1 < w11.heap.size := HSM.out
  have h5 : w11.heap.size < w15.heap.size := HI15.out.lt
  have hKU : Below K w15 w16 := HU16.out.toBelow (Nat.le_of_lt HK15.out.lt) (by omega)
  refine ⟨K, _, _, _, _, _, _, _, _, _, rfl, ⟨HKP.out.keepB (HB515.out.trans hKU), HK15.out.upd HU16.out (by omega), HC0.out.1, rfl, HC0.out.2.2.2.1, rfl, HC0.out.2.2.2.2.2.1, HC0.out.2.2.2.2.2.2.1, HC0.out.2.2.2.2.2.2.2.1, rfl, fun j hj => ?_, ?_, HM15.out.upd HU16.out (by omega), HO15.out.kept HU16.out.grownK (by intro e; injection e with e; omega), HI15.out.kept HU16.out.grownK (by intro e; injection e with e; omega), ⟨T, cc, hrun, by omega⟩, by omega, fun j hj hj1 hj2 => ?_, ⟨rfl, rfl, rfl, rfl, rfl, rfl, rfl⟩, ⟨_, rfl, HW15.out.upd HU16.out (by have := HW13.out; have := HZR.out; omega), HW13.out⟩⟩, HB15.out.trans (HU16.out.toBelow HB15.out.size (by have := HKK.out; omega))⟩
  · have h1 := HC1.out (65 + j) (by omega)
    simp only [upV]
    rw [if_neg (by omega), if_neg (by omega), if_neg (by omega), if_neg (by omega), if_neg (by omega), if_neg (by omega), if_neg (by omega), if_neg (by omega), if_neg (by omega), if_neg (by omega), if_neg (by omega), if_neg (by omega), h1]
  · exact HC2.out.2.2.2.2.2.2.2.2
  · have h1 := HC1.out j hj
    simp only [upV]
    rw [if_neg (by omega), if_neg (by omega), if_neg (by omega), if_neg (by omega), if_neg (by omega), if_neg (by omega), if_neg (by omega), if_neg (by omega), if_neg (by omega), if_neg (by omega), if_neg (by omega), if_neg (by omega), h1]
end
end Go.Proofs.YtnbhohaphmilmaaGreatDoor
